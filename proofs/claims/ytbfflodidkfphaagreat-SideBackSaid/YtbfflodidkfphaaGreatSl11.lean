/- What a polynomial that is whole is told as: all rows of its points' names are tried. What a polynomial is told as, or that it is none. A document's small polynomial, below 0 too; what layer 28's law knows, plainly. Layer 28's law: a layout of three points; what is too great. A condition in a variable of its own. What layer 28's law knows. A polynomial times a number is told as the polynomial is. From the form's own reading of an argument to what a condition is told as. The polynomial that is told by a condition. What is told of a polynomial tells it; the document's content is the program's. The document's content and whole polynomial are the program's. The document: a polynomial as data made whole. -/
import Derived.WalkMore
import Derived.Deep.RegionWith
import Derived.Deep.DeepCutAuto
import Derived.Deep.CutBlock
import Derived.Test.YtbfflodidkfphaaGreatSl10
set_option maxRecDepth 100000
set_option maxHeartbeats 16000000
namespace Go.Proofs.YtbfflodidkfphaaGreat
section
open Go.RowKit Go.Shelf
attribute [local go_sem] Oper.semAt_some
def hitP (x : Lay) (p : PZ) (wd : ByteArray) (row : List ByteArray) : Bool := decide ((condX x wd row).1 = 0) && !(condX x wd row).2.isEmpty && decide (wholeP (condX x wd row).2 = p)
def hitW (x : Lay) (p : PZ) (names : List ByteArray) (wd : ByteArray) (m : Nat) : Option (List ByteArray) := ((List.range (names.length ^ m)).find? fun k => hitP x p wd (rowK names m k)).map (rowK names m)
def toldL (x : Lay) (p : PZ) (names : List ByteArray) : List (ByteArray × Nat) → Option (ByteArray × List ByteArray)
 | [] => none
 | (wd, m) :: r => match hitW x p names wd m with
  | some row => some (wd, row)
  | none => toldL x p names r
def wordsL : List (ByteArray × Nat) := [(wUnlike, 2), (wApart, 3), (wCross, 4), (wDot, 4)]
def toldP (x : Lay) (p : PZ) : SideD :=
 if (namesP x (ofP p)).length < 2 ∨ 6 < (namesP x (ofP p)).length then ⟨ByteArray.empty, [], ofP p⟩
 else match toldL x p (namesP x (ofP p)) wordsL with
  | some (wd, row) => ⟨wd, row, ofP p⟩
  | none => ⟨ByteArray.empty, [], ofP p⟩
theorem hitW_none {x : Lay} {p : PZ} {names : List ByteArray} {wd : ByteArray} {m : Nat} (h : ∀ j, j < names.length ^ m → hitP x p wd (rowK names m j) = false) : hitW x p names wd m = none := by
 unfold hitW
 rw [List.find?_eq_none.2 (fun k hk => by rw [h k (List.mem_range.1 hk)]; exact Bool.false_ne_true)]
 rfl
theorem hitW_some {x : Lay} {p : PZ} {names : List ByteArray} {wd : ByteArray} {m k : Nat} (hk : k < names.length ^ m) (h : ∀ j, j < k → hitP x p wd (rowK names m j) = false) (h1 : hitP x p wd (rowK names m k) = true) : hitW x p names wd m = some (rowK names m k) := by
 unfold hitW
 have : (List.range (names.length ^ m)).find? (fun k => hitP x p wd (rowK names m k)) = some k := by
  rw [List.find?_range_eq_some]
  exact ⟨h1, List.mem_range.2 hk, fun j hj => by simp [h j hj]⟩
 rw [this]
 rfl
theorem hit_err {x : Lay} {p : PZ} {wd : ByteArray} {row : List ByteArray} {er : Int} {q : PZ} (h : condX x wd row = (er, q)) (he : er ≠ 0) : hitP x p wd row = false := by
 unfold hitP
 rw [h, decide_eq_false (by exact he)]; rfl
theorem hit_nil {x : Lay} {p : PZ} {wd : ByteArray} {row : List ByteArray} {er : Int} (h : condX x wd row = (er, [])) : hitP x p wd row = false := by
 unfold hitP
 rw [h]; simp
theorem hit_same {x : Lay} {p : PZ} {wd : ByteArray} {row : List ByteArray} {q : PZ} (h : condX x wd row = (0, q)) (hq : q ≠ []) : hitP x p wd row = decide (wholeP q = p) := by
 unfold hitP
 rw [h]
 cases q with
 | nil => exact absurd rfl hq
 | cons a r => simp
theorem cond_fit {x : Lay} {wd : ByteArray} {row : List ByteArray} {q : PZ} (hok : ∀ c ∈ x.ats, Ok2 c) (h : condX x wd row = (0, q)) : Fit 10 8 q := by
 unfold condX at h
 split at h
 ·next n cs _ hp =>
  split at h
  ·obtain ⟨-, rfl⟩ : (0 : Int) = 0 ∧ condP wd cs = q := by simpa using h
   exact fit_cond wd (fun c hc => hok c (placesS_mem hp c hc))
  ·cases h
 ·cases h
def markD (D : Nat) : Deferred := { target := .collected D, args := #[] }
theorem leaves_marks {F : Fence} {n : Nat} {P : Program} {fn : Func} {tmps : Array Value} {R : Ending → World → Prop} {B : Nat} : ∀ (Ds : List Nat) (Y : World), Ds.Nodup → (∀ D ∈ Ds, B ≤ D ∧ Y.heap[D]? = some (.deferred (some []))) →
  (∀ Y', Y.heap.size ≤ Y'.heap.size → Below B Y Y' → (∀ a u, Y.cell? a = some u → Y'.cell? a = some u) → LeavesIn F n P fn tmps R [] .returning Y') → LeavesInM F n P fn tmps R (Ds.map markD) .returning Y
 | [], Y, _, _, hR => hR Y (Nat.le_refl _) (Below.refl _ _) (fun _ _ h => h)
 | D :: r, Y, hn, hD, hR => by
  obtain ⟨h1, h2⟩ := hD D (by simp)
  have hnd := List.nodup_cons.1 hn
  have hb : Below B Y (Y.putObj D (.deferred none)) := below_put h1 h2 _
  refine ⟨by simp, .inl ⟨D, _, rfl, run_takeDeferred h2, leaves_marks r _ hnd.2 (fun E hE => ⟨(hD E (by simp [hE])).1, ?_⟩) (fun Y' k1 k2 k3 => hR Y' (Nat.le_trans hb.size k1) (hb.trans k2) (fun a u h => k3 a u (cell_kept h (grownBy_putObj' _ D (.deferred none)) (fun r e => by cases e; exact ⟨_, h2, rfl⟩))))⟩⟩
  exact (World.putObj_heap_other (fun e => hnd.1 (by subst e; exact hE))).trans (hD E (by simp [hE])).2
theorem Strs.cellwise {S : Nat → Prop} {w w' : World} {v : Value} {xs : List ByteArray} (h : Strs S w v xs) (hc : ∀ b i u, S b → w.cell? ⟨b, i, none⟩ = some u → w'.cell? ⟨b, i, none⟩ = some u) : Strs S w' v xs := by
 obtain ⟨b, off, hs, hz⟩ := h
 exact ⟨b, off, hs, fun j z hj => hc _ _ _ (hs.in (lt_of_some hj)) (hz j z hj)⟩
def IT (z : World) (x : Lay) (p : PZ) (wd : ByteArray) (names : List ByteArray) (m k : Nat) (Y : World) : Prop := Ext z Y ∧ ∀ j, j < k → hitP x p wd (rowK names m j) = false
theorem IT.on {z : World} {x : Lay} {p : PZ} {wd : ByteArray} {names : List ByteArray} {m : Nat} : ∀ k A B, IT z x p wd names m k A → Below z.heap.size A B → IT z x p wd names m k B := fun _ _ _ h hb => ⟨Below.trans h.1 hb, h.2⟩
def IxT (W z : World) (b5 : Nat) (x : Lay) (p : PZ) (wd : ByteArray) (vp : Value) (names : List ByteArray) (m k : Nat) (Y : World) : Prop :=
 ((∀ j, j < k → hitP x p wd (rowK names m j) = false) ∧ hitP x p wd (rowK names m k) = true) ∧ (∃ vr, Y.cell? ⟨b5, 0, none⟩ = some (.string wd) ∧ Y.cell? ⟨b5, 1, none⟩ = some vr ∧ Y.cell? ⟨b5, 2, none⟩ = some vp ∧ Strs (New z Y) Y vr (rowK names m k)) ∧
  z.heap.size ≤ Y.heap.size ∧ W.heap.size ≤ z.heap.size ∧ Below W.heap.size z Y ∧ ∀ j, j < z.heap.size → j ≠ b5 → Y.heap[j]? = z.heap[j]?
theorem IxT.put {W z : World} {b5 : Nat} {x : Lay} {p : PZ} {wd : ByteArray} {vp : Value} {names : List ByteArray} {m : Nat} : ∀ k A l r o, IxT W z b5 x p wd vp names m k A → z.heap.size ≤ l → A.heap[l]? = some (.loop r) → IxT W z b5 x p wd vp names m k (A.putObj l o) := by
 rintro k A l r o ⟨h1, ⟨vr, c0, c1, c2, hs⟩, h3, h6, h4, h5⟩ hl hr
 have kp : ∀ a u, A.cell? a = some u → (A.putObj l o).cell? a = some u := fun a u h => cell_kept h (grownBy_putObj' A l o) (fun r e => by cases e; exact ⟨_, hr, rfl⟩)
 have hsz := (grownBy_putObj' A l o).size
 exact ⟨h1, ⟨vr, kp _ _ c0, kp _ _ c1, kp _ _ c2, (hs.cellwise (fun b i u _ h => kp _ _ h)).to (Kept.refl _ _) (fun k hk => ⟨hk.1, Nat.lt_of_lt_of_le hk.2 hsz⟩)⟩, Nat.le_trans h3 hsz, h6, h4.trans (below_put (Nat.le_trans h6 hl) hr _), fun j hj hne => (World.putObj_heap_other (by omega)).trans (h5 j hj hne)⟩
def MK (b : Nat) (Ds : List Nat) (z : World) : Prop := Ds.Nodup ∧ ∀ D ∈ Ds, b < D ∧ z.heap[D]? = some (.deferred (some []))
theorem MK.stop {b D : Nat} {Ds : List Nat} {z Y : World} (h : MK b Ds z) (hkp : ∀ j, j < z.heap.size → j ≠ b → Y.heap[j]? = z.heap[j]?) (hb : b < z.heap.size) (hD : z.heap.size ≤ D) (hd : Y.heap[D]? = some (.deferred (some []))) : MK b (D :: Ds) Y := by
 refine ⟨List.nodup_cons.2 ⟨fun hm => ?_, h.1⟩, fun E hE => ?_⟩
 ·have := (Array.getElem?_eq_some_iff.1 (h.2 D hm).2).1
  omega
 ·rcases List.mem_cons.1 hE with rfl | hE
  ·exact ⟨by omega, hd⟩
  ·obtain ⟨h1, h2⟩ := h.2 E hE
   exact ⟨h1, (hkp E (Array.getElem?_eq_some_iff.1 h2).1 (by omega)).trans h2⟩
theorem MK.ext {b : Nat} {Ds : List Nat} {z y : World} (h : MK b Ds z) (hx : Ext z y) : MK b Ds y := ⟨h.1, fun D hD => ⟨(h.2 D hD).1, (hx.block D (Array.getElem?_eq_some_iff.1 (h.2 D hD).2).1).trans (h.2 D hD).2⟩⟩
theorem MK.nil (b : Nat) (z : World) : MK b [] z := ⟨List.nodup_nil, fun D h => by simp at h⟩
theorem kept_frozen {S : Nat → Prop} {w w' : World} (h : Kept S w w') {b i : Nat} (hb : S b) : w'.frozen? ⟨b, i, none⟩ = w.frozen? ⟨b, i, none⟩ := by
 unfold World.frozen?
 rw [h b hb]
theorem told_rest {x : Lay} {p : PZ} {wd : ByteArray} {row : List ByteArray} (hb : ¬((namesP x (ofP p)).length < 2 ∨ 6 < (namesP x (ofP p)).length)) (h : toldL x p (namesP x (ofP p)) wordsL = some (wd, row)) : toldP x p = ⟨wd, row, ofP p⟩ := by
 unfold toldP
 rw [if_neg hb, h]
theorem told_none {x : Lay} {p : PZ} (hb : ¬((namesP x (ofP p)).length < 2 ∨ 6 < (namesP x (ofP p)).length)) (h : toldL x p (namesP x (ofP p)) wordsL = none) : toldP x p = ⟨ByteArray.empty, [], ofP p⟩ := by
 unfold toldP
 rw [if_neg hb, h]
theorem no_succ {x : Lay} {p : PZ} {wd : ByteArray} {names : List ByteArray} {m k : Nat} (h : ∀ j, j < k → hitP x p wd (rowK names m j) = false) (h1 : hitP x p wd (rowK names m k) = false) : ∀ j, j < k + 1 → hitP x p wd (rowK names m j) = false := fun j hj => by
 by_cases e : j = k
 ·rw [e]; exact h1
 ·exact h j (by omega)
theorem ixt_of {W z Y : World} {b5 : Nat} {x : Lay} {p : PZ} {wd : ByteArray} {vr vp u0 u1 : Value} {names : List ByteArray} {m k : Nat} (hx : Ext z Y) (hW : W.heap.size ≤ z.heap.size) (hb : W.heap.size ≤ b5) (hb5 : b5 < z.heap.size)
  (c0 : Y.cell? ⟨b5, 0, none⟩ = some u0) (c1 : Y.cell? ⟨b5, 1, none⟩ = some u1) (c2 : Y.cell? ⟨b5, 2, none⟩ = some vp) (hs : Strs (New z Y) Y vr (rowK names m k)) (hno : ∀ j, j < k → hitP x p wd (rowK names m j) = false) (hh : hitP x p wd (rowK names m k) = true) :
  IxT W z b5 x p wd vp names m k ((Y.setCell ⟨b5, 0, none⟩ (.string wd)).setCell ⟨b5, 1, none⟩ vr) := by
 have hsz : ((Y.setCell ⟨b5, 0, none⟩ (.string wd)).setCell ⟨b5, 1, none⟩ vr).heap.size = Y.heap.size := by simp only [size_setCell]
 refine ⟨⟨hno, hh⟩, ⟨vr, other (same_of c0) (ao (by decide)), same_of (other c1 (ao (by decide))), other (other c2 (ao (by decide))) (ao (by decide)), ?_⟩, by rw [hsz]; exact hx.size, hW, (hx.mono hW).trans (((Below.refl _ Y).setCell (p := ⟨b5, 0, none⟩) hb _).setCell (p := ⟨b5, 1, none⟩) hb _), fun j hj hne => ?_⟩
 ·refine (hs.cellwise (fun b i u hbb h => other (other h (ab ?_)) (ab ?_))).to (Kept.refl _ _) (fun k hk => ⟨hk.1, by rw [hsz]; exact hk.2⟩)
  ·have := hbb.1; omega
  ·have := hbb.1; omega
 ·exact ((Below.heap_setCell _ _ _ _ hne).trans (Below.heap_setCell _ _ _ _ hne)).trans (hx.block j hj)
theorem rx_put {z : World} {names : List ByteArray} {m : Nat} : ∀ k v A l r o, RxK z names m k v A → A.heap[l]? = some (.loop r) → RxK z names m k v (A.putObj l o) := by
 intro k v A l r o h hr
 have kp : ∀ a u, A.cell? a = some u → (A.putObj l o).cell? a = some u := fun a u h => cell_kept h (grownBy_putObj' A l o) (fun r e => by cases e; exact ⟨_, hr, rfl⟩)
 exact (Strs.cellwise h (fun b i u _ h => kp _ _ h)).to (Kept.refl _ _) (fun k hk => ⟨hk.1, Nat.lt_of_lt_of_le hk.2 (grownBy_putObj' A l o).size⟩)
theorem told_ret {W Y : World} {tmps : Array Value} {wd : ByteArray} {vn vp : Value} {pts : List ByteArray} {p : PZ} {T : SideD} {b4 : Nat} {u0 u1 u2 : Value} {Ds : List Nat} (ht : tmps.getD 4 undef = .pointer (some ⟨b4, 0, none⟩)) (hb : W.heap.size ≤ b4) (hx : Ext W Y)
  (c0 : Y.cell? ⟨b4, 0, none⟩ = some u0) (c1 : Y.cell? ⟨b4, 1, none⟩ = some u1) (c2 : Y.cell? ⟨b4, 2, none⟩ = some u2) (hS : Strs (fun k => W.heap.size ≤ k ∧ k < Y.heap.size ∧ k ≠ b4) Y vn pts) (hn : Ds.Nodup) (hD : ∀ D ∈ Ds, W.heap.size ≤ D ∧ Y.heap[D]? = some (.deferred (some []))) (hT : T = ⟨wd, pts, ofP p⟩) :
  bodyPostM Fence.wide 9 Tryz.prog Tryz.f33 (fun e w' => ∃ vn', e = .returned (.agg #[.string T.word, vn', vp]) ∧ Strs (New W w') w' vn' T.pts ∧ Ext W w') .ret { tmps := tmps, defers := Ds.map markD } (((Y.setCell ⟨b4, 0, none⟩ (.string wd)).setCell ⟨b4, 1, none⟩ vn).setCell ⟨b4, 2, none⟩ vp) := by
 subst hT
 obtain ⟨Y3, hY3⟩ : ∃ Z, Z = ((Y.setCell ⟨b4, 0, none⟩ (.string wd)).setCell ⟨b4, 1, none⟩ vn).setCell ⟨b4, 2, none⟩ vp := ⟨_, rfl⟩
 have k0 : Y3.cell? ⟨b4, 0, none⟩ = some (.string wd) := by rw [hY3]; exact other (other (same_of c0) (ao (by decide))) (ao (by decide))
 have k1 : Y3.cell? ⟨b4, 1, none⟩ = some vn := by rw [hY3]; exact other (same_of (other c1 (ao (by decide)))) (ao (by decide))
 have k2 : Y3.cell? ⟨b4, 2, none⟩ = some vp := by rw [hY3]; exact same_of (other (other c2 (ao (by decide))) (ao (by decide)))
 have ko : ∀ b i u, b ≠ b4 → Y.cell? ⟨b, i, none⟩ = some u → Y3.cell? ⟨b, i, none⟩ = some u := fun b i u hb h => by
  rw [hY3]; exact other (other (other h (ab (fun e => hb e.symm))) (ab (fun e => hb e.symm))) (ab (fun e => hb e.symm))
 have hb3 : Below W.heap.size Y Y3 := by rw [hY3]; exact (((Below.refl _ Y).setCell (p := ⟨b4, 0, none⟩) hb _).setCell (p := ⟨b4, 1, none⟩) hb _).setCell (p := ⟨b4, 2, none⟩) hb _
 have hsz : Y3.heap.size = Y.heap.size := by rw [hY3]; simp only [size_setCell]
 have hd3 : ∀ D ∈ Ds, W.heap.size ≤ D ∧ Y3.heap[D]? = some (.deferred (some [])) := fun D h => ⟨(hD D h).1, by
  have h1 := (((KeepsOthers.setCell Y ⟨b4, 0, none⟩ (.string wd)).trans (KeepsOthers.setCell _ ⟨b4, 1, none⟩ vn)).trans (KeepsOthers.setCell _ ⟨b4, 2, none⟩ vp)).same D _ (hD D h).2 rfl
  rw [hY3]; exact h1⟩
 rw [← hY3]
 refine leaves_marks Ds Y3 hn hd3 (fun Y' q1 q2 q3 => ?_)
 have hxY : Ext W Y' := Below.trans (Below.trans hx hb3) q2
 refine ⟨.agg #[.string wd, vn, vp], ?_, vn, rfl, ?_, hxY⟩
 ·have m0 := q3 _ _ k0
  have m1 := q3 _ _ k1
  have m2 := q3 _ _ k2
  have ht2 : tmps[4]?.getD undef = .pointer (some ⟨b4, 0, none⟩) := by simpa using ht
  simp [results, Tryz.f33, go_sem, ht2, m0, m1, m2]
 ·refine (hS.cellwise (w' := Y') (fun b i u hbb h => q3 _ _ (ko b i u hbb.2.2 h))).to (Kept.refl _ _) (fun k hk => ⟨hk.1, ?_⟩)
  have := hk.2.1
  omega
theorem side_told {W : World} {v vp : Value} {x : Lay} {p : PZ} {kp np : Nat} (hx : LayV (Old W) W v x) (hok : ∀ c ∈ x.ats, Ok2 c) (hp : Terms (Old W) W vp (ofP p)) (fp : Fit kp np p) (hkp : kp ≤ 1000000) (hnp : np ≤ 1000000000000) (hpl : x.pts.length ≤ 1000) (hal : x.ats.length ≤ 1000) :
  Calls Tryz.prog 33 #[v, vp] W fun e w' => ∃ vn, e = .returned (.agg #[.string (toldP x p).word, vn, vp]) ∧ Strs (New W w') w' vn (toldP x p).pts ∧ Ext W w' := by
 have HXL := hid hx
 have HP := hid hp
 have HFP := hid fp
 have HOK := hid hok
 obtain ⟨vq, va, rfl, hq, ha⟩ := hx
 obtain ⟨ap, cp, rfl⟩ := hq.form
 obtain ⟨aa, ca, rfl⟩ := ha.form
 obtain ⟨at_, ct, rfl⟩ := hp.form
 obtain ⟨nq, hnq⟩ : ∃ n, n = x.pts.length := ⟨_, rfl⟩
 obtain ⟨na, hna⟩ : ∃ n, n = x.ats.length := ⟨_, rfl⟩
 obtain ⟨nt, hnt⟩ : ∃ n, n = (ofP p).length := ⟨_, rfl⟩
 have CP := hid (fun (Y : World) (hY : Ext W Y) => side_points (ts := ofP p) (HXL.out.on hY) (HP.out.on hY) hpl hal)
 have HXL' := HXL
 rw [← hnq, ← hna] at HXL' CP ⊢
 rw [← hnt] at HP CP ⊢
 obtain ⟨w0, hw0⟩ : ∃ Y, Y = (((W.alloc (.cells #[.slice ap nq cp, .slice aa na ca, .int .i64 x.par, .int .i64 x.vrs] 35)).alloc (.cells #[.slice at_ nt ct] 23)).alloc (.cells #[.string { data := #[] }, .slice none 0 0, .slice none 0 0] 40)).alloc (.cells #[.string { data := #[] }, .slice none 0 0, .slice at_ nt ct] 40) := ⟨_, rfl⟩
 clear hp hq ha hnq hna hnt fp hok
 refine (callsIn_wide (n := 9)).1 ?_
 refine callsIn_of_wp_marks Tryz.func33 rfl trivial ?_ rfl
 simp only [Tryz.ntmps33, List.size_toArray, List.length_cons, List.length_nil, Nat.reduceAdd, Nat.reduceSub, Array.replicate_succ, Array.replicate_zero, List.push_toArray, List.append_toArray, List.nil_append, List.cons_append]
 gi_wp2
 refine wpIn_wide.2 ?_
 apply wp_scope_straight
 refine (wpIn_wide (n := 9)).1 ?_
 have HX0 : Hid (Ext W w0) := hid (by rw [hw0]; exact (((Ext.alloc (Ext.refl _) _).alloc _).alloc _).alloc _)
 have CP0 := hid (CP.out w0 HX0.out)
 rw [hw0] at CP0
 have HB := hid (fun (Y : World) (hY : Ext w0 Y) => by
  rw [hw0] at hY
  have k0 : ∀ (i : Nat) (u : Value), #[Value.slice ap nq cp, .slice aa na ca, .int .i64 x.par, .int .i64 x.vrs][i]? = some u → Y.cell? ⟨W.heap.size, i, none⟩ = some u := fun i u hu => hY.cell (cell_old _ (cell_old _ (cell_old _ (cell_new W _ _ rfl hu))))
  have k1 : Y.cell? ⟨W.heap.size + 1, 0, none⟩ = some (.slice at_ nt ct) := hY.cell (cell_old _ (cell_old _ (cell_new _ _ _ (by rw [size_alloc]) rfl)))
  exact And.intro (And.intro (k0 0 _ rfl) (And.intro (k0 1 _ rfl) (And.intro (k0 2 _ rfl) (k0 3 _ rfl)))) k1)
 have HS := hid (fun (Y : World) (hY : Ext w0 Y) => by
  rw [hw0] at hY
  have k2 : ∀ (i : Nat) (u : Value), #[Value.string { data := #[] }, .slice none 0 0, .slice none 0 0][i]? = some u → Y.cell? ⟨W.heap.size + 1 + 1, i, none⟩ = some u := fun i u hu => hY.cell (cell_old _ (cell_new _ _ _ (by rw [size_alloc, size_alloc]) hu))
  have k3 : ∀ (i : Nat) (u : Value), #[Value.string { data := #[] }, .slice none 0 0, .slice at_ nt ct][i]? = some u → Y.cell? ⟨W.heap.size + 1 + 1 + 1, i, none⟩ = some u := fun i u hu => hY.cell (cell_new _ _ _ (by rw [size_alloc, size_alloc, size_alloc]) hu)
  exact And.intro (And.intro (k2 0 _ rfl) (And.intro (k2 1 _ rfl) (k2 2 _ rfl))) (And.intro (k3 0 _ rfl) (And.intro (k3 1 _ rfl) (k3 2 _ rfl))))
 have HFZ := hid (fun (Y : World) (hY : Ext w0 Y) => by
  rw [hw0] at hY
  have k2 : ∀ (i : Nat), Y.frozen? ⟨W.heap.size + 1 + 1, i, none⟩ = false := fun i => hY.free (by simp only [size_alloc]; omega) (free_old _ (by simp only [size_alloc]; omega) (by have := free_new ((W.alloc (.cells #[.slice ap nq cp, .slice aa na ca, .int .i64 x.par, .int .i64 x.vrs] 35)).alloc (.cells #[.slice at_ nt ct] 23)) #[.string { data := #[] }, .slice none 0 0, .slice none 0 0] 40 (i := i); rwa [size_alloc, size_alloc] at this))
  have k3 : ∀ (i : Nat), Y.frozen? ⟨W.heap.size + 1 + 1 + 1, i, none⟩ = false := fun i => hY.free (by simp only [size_alloc]; omega) (by have := free_new (((W.alloc (.cells #[.slice ap nq cp, .slice aa na ca, .int .i64 x.par, .int .i64 x.vrs] 35)).alloc (.cells #[.slice at_ nt ct] 23)).alloc (.cells #[.string { data := #[] }, .slice none 0 0, .slice none 0 0] 40)) #[.string { data := #[] }, .slice none 0 0, .slice at_ nt ct] 40 (i := i); rwa [size_alloc, size_alloc, size_alloc] at this)
  exact And.intro (And.intro (k2 0) (And.intro (k2 1) (k2 2))) (And.intro (k3 0) (And.intro (k3 1) (k3 2))))
 have HSZ : Hid (W.heap.size + 1 + 1 + 1 < w0.heap.size) := hid (by rw [hw0]; simp only [size_alloc]; omega)
 have HW0 := hid hw0
 clear hw0
 obtain ⟨nn, hnn⟩ : ∃ n, n = (namesP x (ofP p)).length := ⟨_, rfl⟩
 have HNN := hid hnn
 clear hnn
 by_cases hbad : nn < 2 ∨ 6 < nn
 ·have HT : Hid (toldP x p = ⟨ByteArray.empty, [], ofP p⟩) := hid (by unfold toldP; rw [← HNN.out, if_pos hbad])
  by_cases h2 : nn < 2
  ·clear hbad
   gi_wp2_with (refine ⟨trivial, ?_⟩; gi_at_call 71; refine (callsIn_wide.2 CP0.out).mono ?_; rintro e w1 ⟨v1, rfl, hn1, hx1⟩; rw [← HW0.out] at hx1; have HX1 := hid hx1; have HN1 := hid hn1; obtain ⟨a1, c1, e1⟩ := hn1.form; rw [← HNN.out] at e1; subst e1; obtain ⟨⟨s0, s1, s2⟩, t0, t1, t2⟩ := HS.out _ hx1; obtain ⟨⟨f0, f1, f2⟩, g0, g1, g2⟩ := HFZ.out _ hx1; clear hx1 hn1)
   exact told_ret (Ds := []) rfl (by omega) (HX0.out.trans HX1.out) s0 s1 s2 ⟨0, 0, ⟨none, 0, rfl, Nat.le_refl _, Nat.zero_le _, fun h => absurd h (by simp), fun h => absurd h (by simp)⟩, fun j x hj => by simp at hj⟩ List.nodup_nil (fun D h => by simp at h) HT.out
  ·have h6 : 6 < nn := by omega
   have q1 : decide ((nn : Int) < 2) = false := decide_eq_false (by omega)
   have q2 : decide (6 < (nn : Int)) = true := decide_eq_true (by omega)
   clear hbad
   gi_wp2_with (refine ⟨trivial, ?_⟩; gi_at_call 71; refine (callsIn_wide.2 CP0.out).mono ?_; rintro e w1 ⟨v1, rfl, hn1, hx1⟩; rw [← HW0.out] at hx1; have HX1 := hid hx1; have HN1 := hid hn1; obtain ⟨a1, c1, e1⟩ := hn1.form; rw [← HNN.out] at e1; subst e1; obtain ⟨⟨s0, s1, s2⟩, t0, t1, t2⟩ := HS.out _ hx1; obtain ⟨⟨f0, f1, f2⟩, g0, g1, g2⟩ := HFZ.out _ hx1; clear hx1 hn1)
   exact told_ret (Ds := []) rfl (by omega) (HX0.out.trans HX1.out) s0 s1 s2 ⟨0, 0, ⟨none, 0, rfl, Nat.le_refl _, Nat.zero_le _, fun h => absurd h (by simp), fun h => absurd h (by simp)⟩, fun j x hj => by simp at hj⟩ List.nodup_nil (fun D h => by simp at h) HT.out
 ·have h2 : 2 ≤ nn := by omega
  have h6 : nn ≤ 6 := by omega
  have q1 : decide ((nn : Int) < 2) = false := decide_eq_false (by omega)
  have q2 : decide (6 < (nn : Int)) = false := decide_eq_false (by omega)
  have HBD := hid hbad
  clear hbad
  gi_wp2_with (refine ⟨trivial, ?_⟩; gi_at_call 71; refine (callsIn_wide.2 CP0.out).mono ?_; rintro e w1 ⟨v1, rfl, hn1, hx1⟩; rw [← HW0.out] at hx1; have HX1 := hid hx1; have HN1 := hid hn1; obtain ⟨a1, c1, e1⟩ := hn1.form; rw [← HNN.out] at e1; subst e1; obtain ⟨⟨s0, s1, s2⟩, t0, t1, t2⟩ := HS.out _ hx1; obtain ⟨⟨f0, f1, f2⟩, g0, g1, g2⟩ := HFZ.out _ hx1; clear hx1 hn1)
  refine wpIn_label ?_
  gi_wp2
  obtain ⟨bw, hbw⟩ : ∃ b, b = w1.heap.size := ⟨_, rfl⟩
  obtain ⟨y0, hy0⟩ : ∃ Y, Y = w1.alloc (.cells #[.string { data := #[117, 110, 108, 105, 107, 101] }, .string { data := #[97, 112, 97, 114, 116] }, .string { data := #[99, 114, 111, 115, 115] }, .string { data := #[100, 111, 116] }] 9) := ⟨_, rfl⟩
  have HY0 : Hid (Ext w0 y0) := hid (by rw [hy0]; exact HX1.out.alloc _)
  have HY1 : Hid (Ext w1 y0) := hid (by rw [hy0]; exact Ext.alloc (Ext.refl _) _)
  have HWD := hid (fun (Y : World) (hY : Ext y0 Y) => by
   rw [hy0] at hY
   have k : ∀ (i : Nat) (u : Value), #[Value.string { data := #[117, 110, 108, 105, 107, 101] }, .string { data := #[97, 112, 97, 114, 116] }, .string { data := #[99, 114, 111, 115, 115] }, .string { data := #[100, 111, 116] }][i]? = some u → Y.cell? ⟨bw, i, none⟩ = some u := fun i u hu => hY.cell (cell_new w1 _ _ hbw hu)
   exact And.intro (k 0 _ rfl) (And.intro (k 1 _ rfl) (And.intro (k 2 _ rfl) (k 3 _ rfl))))
  rw [← hy0]
  rw [← hbw]
  have HBW := hid hbw
  have HE0 : Hid (Ext y0 y0) := hid (Ext.refl _)
  have HM0 := hid (MK.nil (W.heap.size + 1 + 1 + 1) y0)
  clear hy0 hbw s0 s1 s2 t0 t1 t2 f0 f1 f2 g0 g1 g2
  refine wpIn_loop_rounds 5 ?_
  rw [roundsIn_succ]
  obtain ⟨d0, d1, d2, d3⟩ := HWD.out y0 HE0.out
  gi_wp2_with (refine ⟨trivial, ?_⟩; gi_at_call 72; refine (callsIn_wide.2 (rows_any _ _ _ _ _)).mono ?_; rintro e z1 ⟨rfl, hz⟩)
  rw [← hz]
  have HZ : Hid (Ext y0 z1) := hid (by rw [hz]; exact (((Ext.alloc (Ext.refl _) _).alloc _).alloc _).alloc _)
  have HZ0 := hid ((HY0.out.trans HE0.out).trans HZ.out)
  have hb8 : z1.cell? ⟨y0.heap.size, 0, none⟩ = some (.string { data := #[117, 110, 108, 105, 107, 101] }) := by rw [hz]; exact cell_old _ (cell_old _ (cell_old _ (cell_new _ _ _ rfl rfl)))
  have hbn : z1.cell? ⟨y0.heap.size + 1 + 1, 0, none⟩ = some (.slice a1 nn c1) := by rw [hz]; exact cell_old _ (cell_new _ _ _ (by simp only [size_alloc]) rfl)
  have hbm : z1.cell? ⟨y0.heap.size + 1 + 1 + 1, 0, none⟩ = some (.int .i64 ((2 : Nat) : Int)) := by rw [hz]; exact cell_new _ _ _ (by simp only [size_alloc]) rfl
  have HB8 := hid hb8
  have HBN := hid hbn
  have HBM := hid hbm
  have hsz : z1.heap.size = y0.heap.size + 4 := by rw [hz]; simp only [size_alloc]
  have HSZ1 := hid hsz
  clear hz hb8 hbn hbm hsz d0 d1 d2 d3
  refine wpIn_rows (F := Fence.wide) (n := 9) (w := z1) (N := (namesP x (ofP p)).length ^ 2) (Rx := RxK z1 (namesP x (ofP p)) 2) rfl (by decide) (gf := 107) (lb := #[.pointer (some ⟨y0.heap.size + 1 + 1 + 1, 0, none⟩), .pointer (some ⟨y0.heap.size + 1 + 1, 0, none⟩)]) rfl trivial (enters_of Tryz.func107 (by kernel_rfl) rfl)
   (rows1_seq 8 (by decide) (by decide) (by decide) (by rw [← HNN.out]; omega) (by rw [← HNN.out]; omega) (HN1.out.to (Kept.ext ((HY1.out.trans HE0.out).trans HZ.out) New.lt) (fun k hk => Nat.lt_of_lt_of_le hk.2 ((HY1.out.trans HE0.out).trans HZ.out).size)) HBM.out HBN.out)
   rx_put (IT z1 x p wUnlike (namesP x (ofP p)) 2) (IxT W z1 (W.heap.size + 1 + 1 + 1) x p wUnlike (.slice at_ nt ct) (namesP x (ofP p)) 2) (.exit 0) IT.on IxT.put ⟨Ext.refl _, fun j hj => absurd hj (Nat.not_lt_zero _)⟩
   (fun vr => { tmps := #[.agg #[.slice ap nq cp, .slice aa na ca, .int .i64 x.par, .int .i64 x.vrs], .slice at_ nt ct, .pointer (some ⟨W.heap.size, 0, none⟩), .pointer (some ⟨W.heap.size + 1, 0, none⟩), .pointer (some ⟨W.heap.size + 1 + 1, 0, none⟩), .pointer (some ⟨W.heap.size + 1 + 1 + 1, 0, none⟩), .slice a1 nn c1, .int .i64 0, .pointer (some ⟨y0.heap.size, 0, none⟩), vr, undef, undef, undef, undef, .slice at_ nt ct, .agg #[.string { data := #[] }, .slice none 0 0, .slice at_ nt ct], .agg #[.slice ap nq cp, .slice aa na ca, .int .i64 x.par, .int .i64 x.vrs], .slice at_ nt ct, .slice a1 nn c1, .slice a1 nn c1, .int .i64 (nn : Int), .bool false, .bool false, .slice a1 nn c1, .int .i64 (nn : Int), .bool false, .bool false, undef, .slice (some ⟨bw, 0, none⟩) 4 4, .int .i64 4, .int .i64 0, .bool true, .int .i64 0, .pointer (some ⟨bw, 0, none⟩), .string { data := #[117, 110, 108, 105, 107, 101] }, .slice a1 nn c1, .slice (some ⟨y0.heap.size + 1, 0, none⟩) 4 4, .int .i64 0, .pointer (some ⟨y0.heap.size + 1, 0, none⟩), .int .i64 2, .func (.func 107) #[] #[.pointer (some ⟨y0.heap.size + 1 + 1 + 1, 0, none⟩), .pointer (some ⟨y0.heap.size + 1 + 1, 0, none⟩)], vr, undef, undef, undef, undef, undef, undef, undef, undef, undef, undef, undef, undef, undef, undef, undef, undef, undef, undef, undef, undef, undef, undef, undef, undef, undef, undef, undef, undef], defers := [] }) ?assign1 ?body1 ?done1 ?stop1
  case assign1 =>
   intro l vr Y K hK
   gi_wp2
   exact hK
  case body1 =>
   rintro l k vr Y hk ⟨hYx, hno⟩ hrx
   have HYX := hid hYx
   have HNO := hid hno
   have HRX := hid (show Strs (New z1 Y) Y vr (rowK (namesP x (ofP p)) 2 k) from hrx)
   have HKL := hid hk
   have HYW := hid (HZ0.out.trans hYx)
   obtain ⟨⟨e0, e1, e2, e3⟩, e4⟩ := HB.out Y HYW.out
   have e5 := hYx.cell HB8.out
   obtain ⟨row, hrow⟩ : ∃ r, r = rowK (namesP x (ofP p)) 2 k := ⟨_, rfl⟩
   have HRW := hid hrow
   rw [← hrow] at HRX
   have hrl : row.length = 2 := by rw [hrow]; exact rowK_len _ _ _
   have HC := hid (hypo_condition (x := x) (wd := wUnlike) (names := row) (HXL'.out.on (HX0.out.trans HYW.out)) HOK.out (HRX.out.to (Kept.refl _ _) New.lt) (by decide) (by omega))
   obtain ⟨er, q, hcq⟩ : ∃ er q, condX x wUnlike row = (er, q) := ⟨_, _, rfl⟩
   rw [hcq] at HC
   unfold wUnlike at HC
   obtain ⟨ql, hql⟩ : ∃ n, n = (ofP q).length := ⟨_, rfl⟩
   have HQL := hid hql
   have HCQ := hid hcq
   obtain ⟨ar, cr, hvr⟩ := HRX.out.form
   rw [hrl] at hvr
   subst hvr
   clear hYx hno hrx hk hcq hql
   by_cases he : er = 0
   ·subst he
    by_cases hq : q = []
    ·have hb : ((ql : Int) == 0) = true := by rw [HQL.out, hq]; rfl
     have HH : Hid (hitP x p wUnlike row = false) := hid (by have h := HCQ.out; rw [hq] at h; exact hit_nil h)
     clear hq
     gi_wp2_with (refine ⟨trivial, ?_⟩; gi_at_call 53; refine (CallsIn.inRound l (callsIn_wide.2 HC.out)).mono ?_; rintro e w5 ⟨v5, rfl, hq5, hx5⟩; have HX5 := hid hx5; obtain ⟨aq, cq, e5⟩ := hq5.form; rw [← HQL.out] at e5; subst e5; clear hq5 hx5)
     exact ⟨HX5.out, HYX.out.trans HX5.out, no_succ HNO.out (by rw [← HRW.out]; exact HH.out)⟩
    ·have hb : ((ql : Int) == 0) = false := by rw [beq_eq_false_iff_ne, HQL.out, ofP_len]; have := List.length_pos_iff.2 hq; omega
     have HFQ := hid (cond_fit HOK.out HCQ.out)
     have HH := hid (hit_same (p := p) HCQ.out hq)
     obtain ⟨tt, htt⟩ : ∃ b, b = decide (wholeP q = p) := ⟨_, rfl⟩
     rw [← htt] at HH
     have HTT := hid htt
     clear hq htt
     have C2 := hid (fun (Z : World) (u : Value) (hu : Terms (Old Z) Z u (ofP q)) => poly_whole hu HFQ.out (by decide) (by decide))
     have C3 := hid (fun (Z : World) (u : Value) (hZ : Ext W Z) (hu : Terms (Old Z) Z u (ofP (wholeP q))) => z_same hu (HP.out.on hZ))
     rw [← HTT.out] at C3
     have HBF := hid (fun (Z : World) (hZ : Ext z1 Z) => And.intro (HB.out Z (HZ0.out.trans hZ)) (And.intro (hZ.cell HB8.out) (And.intro (HS.out Z (HZ0.out.trans hZ)).2 (HFZ.out Z (HZ0.out.trans hZ)).2)))
     cases tt with
     | false =>
      gi_wp2_with (first
       | (refine ⟨trivial, ?_⟩; gi_at_call 53; refine (CallsIn.inRound l (callsIn_wide.2 HC.out)).mono ?_; rintro e w5 ⟨v5, rfl, hq5, hx5⟩; have HX5 := hid hx5; have HQ5 := hid hq5; obtain ⟨aq, cq, e5⟩ := hq5.form; rw [← HQL.out] at e5; subst e5; clear hq5 hx5)
       | (refine ⟨trivial, ?_⟩; gi_at_call 32; refine (CallsIn.inRound l (callsIn_wide.2 (C2.out w5 _ (HQ5.out.to (Kept.refl _ _) New.lt)))).mono ?_; rintro e w6 ⟨v6, rfl, hq6, hx6⟩; have HX6 := hid (HX5.out.trans hx6); have HQ6 := hid hq6; obtain ⟨⟨-, e4⟩, -⟩ := HBF.out w6 (HYX.out.trans HX6.out); obtain ⟨a6, c6, rfl⟩ := hq6.form; clear hq6 hx6)
       | (refine ⟨trivial, ?_⟩; gi_at_call 60; refine (CallsIn.inRound l (callsIn_wide.2 (C3.out w6 _ ((HX0.out.trans HYW.out).trans HX6.out) (HQ6.out.to (Kept.refl _ _) New.lt)))).mono ?_; rintro e w7 ⟨rfl, hx7⟩; have HX7 := hid (HX6.out.trans hx7); obtain ⟨-, e5, ⟨t0, t1, t2⟩, g0, g1, g2⟩ := HBF.out w7 (HYX.out.trans HX7.out); clear hx7))
      exact ⟨HX7.out, HYX.out.trans HX7.out, no_succ HNO.out (by rw [← HRW.out]; exact HH.out)⟩
     | true =>
      gi_wp2_with (first
       | (refine ⟨trivial, ?_⟩; gi_at_call 53; refine (CallsIn.inRound l (callsIn_wide.2 HC.out)).mono ?_; rintro e w5 ⟨v5, rfl, hq5, hx5⟩; have HX5 := hid hx5; have HQ5 := hid hq5; obtain ⟨aq, cq, e5⟩ := hq5.form; rw [← HQL.out] at e5; subst e5; clear hq5 hx5)
       | (refine ⟨trivial, ?_⟩; gi_at_call 32; refine (CallsIn.inRound l (callsIn_wide.2 (C2.out w5 _ (HQ5.out.to (Kept.refl _ _) New.lt)))).mono ?_; rintro e w6 ⟨v6, rfl, hq6, hx6⟩; have HX6 := hid (HX5.out.trans hx6); have HQ6 := hid hq6; obtain ⟨⟨-, e4⟩, -⟩ := HBF.out w6 (HYX.out.trans HX6.out); obtain ⟨a6, c6, rfl⟩ := hq6.form; clear hq6 hx6)
       | (refine ⟨trivial, ?_⟩; gi_at_call 60; refine (CallsIn.inRound l (callsIn_wide.2 (C3.out w6 _ ((HX0.out.trans HYW.out).trans HX6.out) (HQ6.out.to (Kept.refl _ _) New.lt)))).mono ?_; rintro e w7 ⟨rfl, hx7⟩; have HX7 := hid (HX6.out.trans hx7); obtain ⟨-, e5, ⟨t0, t1, t2⟩, g0, g1, g2⟩ := HBF.out w7 (HYX.out.trans HX7.out); clear hx7))
      have hsz7 : W.heap.size + 1 + 1 + 1 < z1.heap.size := by have h1 := HSZ.out; have h2 := HZ0.out.size; omega
      have hx7 := HYX.out.trans HX7.out
      have hst : Strs (New z1 w7) w7 (.slice ar 2 cr) row := HRX.out.to (Kept.ext HX7.out New.lt) (fun k hk => ⟨hk.1, Nat.lt_of_lt_of_le hk.2 HX7.out.size⟩)
      have hW0 : W.heap.size ≤ z1.heap.size := by omega
      exact ⟨rfl, ((KeepsOthers.of_ext HX7.out).trans ((KeepsOthers.setCell _ _ _).trans (KeepsOthers.setCell _ _ _))).from _, ixt_of hx7 hW0 (by omega) (by omega) t0 t1 t2 (by rw [← HRW.out]; exact hst) HNO.out (by rw [← HRW.out]; exact HH.out)⟩
   ·have hb : ((er : Int) != 0) = true := by rw [bne_iff_ne]; exact he
    have HH : Hid (hitP x p wUnlike row = false) := hid (hit_err HCQ.out he)
    clear he
    gi_wp2_with (refine ⟨trivial, ?_⟩; gi_at_call 53; refine (CallsIn.inRound l (callsIn_wide.2 HC.out)).mono ?_; rintro e w5 ⟨v5, rfl, hq5, hx5⟩; have HX5 := hid hx5; obtain ⟨aq, cq, e5⟩ := hq5.form; rw [← HQL.out] at e5; subst e5; clear hq5 hx5)
    exact ⟨HX5.out, HYX.out.trans HX5.out, no_succ HNO.out (by rw [← HRW.out]; exact HH.out)⟩
  case stop1 =>
   rintro D k Y hD hk ⟨⟨hno, hh⟩, ⟨vr, c0, c1, c2, hs⟩, hsz, hW, hbl, hkp⟩ hdd
   have hT : Hid (toldP x p = ⟨wUnlike, rowK (namesP x (ofP p)) 2 k, ofP p⟩) := hid (told_rest (by rw [← HNN.out]; exact HBD.out) (by
    unfold wordsL
    simp only [toldL, hitW_some hk hno hh]))
   obtain ⟨row, hrow⟩ : ∃ r, r = rowK (namesP x (ofP p)) 2 k := ⟨_, rfl⟩
   have hrl : row.length = 2 := by rw [hrow]; exact rowK_len _ _ _
   rw [← hrow] at hs hT
   have HT := hid hT
   have hK : Kept (fun j => j < z1.heap.size ∧ j ≠ W.heap.size + 1 + 1 + 1) z1 Y := fun j hj => hkp j hj.1 hj.2
   have hb4 : W.heap.size + 1 + 1 < z1.heap.size ∧ W.heap.size + 1 + 1 ≠ W.heap.size + 1 + 1 + 1 := by have h1 := HSZ.out; have h2 := HZ0.out.size; omega
   obtain ⟨⟨s0, s1, s2⟩, -⟩ := HS.out z1 HZ0.out
   obtain ⟨⟨f0, f1, f2⟩, -⟩ := HFZ.out z1 HZ0.out
   have s0 := hK.cell hb4 s0
   have s1 := hK.cell hb4 s1
   have s2 := hK.cell hb4 s2
   have f0 := (kept_frozen hK (i := 0) hb4).trans f0
   have f1 := (kept_frozen hK (i := 1) hb4).trans f1
   have f2 := (kept_frozen hK (i := 2) hb4).trans f2
   have HSR := hid (show Strs (fun k => W.heap.size ≤ k ∧ k < Y.heap.size ∧ k ≠ W.heap.size + 1 + 1) Y vr row from hs.to (Kept.refl _ _) (fun k hk => ⟨by have h1 := hk.1; omega, hk.2, by have h1 := hk.1; have h2 := hb4.1; omega⟩))
   have HWY : Hid (Ext W Y) := hid (Below.trans (HX0.out.trans HZ0.out) hbl)
   have HMK := hid ((HM0.out.ext HZ.out).stop hkp (by have h1 := HSZ.out; have h2 := HZ0.out.size; omega) hD hdd)
   obtain ⟨ar, cr, hvr⟩ := hs.form
   rw [hrl] at hvr
   subst hvr
   clear hno hh hs hsz hW hbl hkp hdd hD hk hT hrow hK hb4
   gi_wp2
   exact told_ret (Ds := [D]) rfl (by omega) HWY.out s0 s1 s2 HSR.out HMK.out.1 (fun E hE => ⟨by have h1 := (HMK.out.2 E hE).1; omega, (HMK.out.2 E hE).2⟩) HT.out
  rintro D1 y1 hD1 ⟨hYx, hno⟩ hdd1
  have HE1 := hid ((HE0.out.trans HZ.out).trans hYx)
  have HNO1 := hid hno
  have HM1 := hid ((HM0.out.ext HZ.out).stop (fun j hj _ => hYx.block j hj) (by have h1 := HSZ.out; have h2 := HZ0.out.size; omega) hD1 hdd1)
  clear hYx hno hD1 hdd1 HZ HZ0 HB8 HBN HBM HSZ1
  gi_wp2
  rw [roundsIn_succ]
  obtain ⟨d0, d1, d2, d3⟩ := HWD.out y1 HE1.out
  gi_wp2_with (refine ⟨trivial, ?_⟩; gi_at_call 72; refine (callsIn_wide.2 (rows_any _ _ _ _ _)).mono ?_; rintro e z2 ⟨rfl, hz⟩)
  rw [← hz]
  have HZ : Hid (Ext y1 z2) := hid (by rw [hz]; exact (((Ext.alloc (Ext.refl _) _).alloc _).alloc _).alloc _)
  have HZ0 := hid ((HY0.out.trans HE1.out).trans HZ.out)
  have hb8 : z2.cell? ⟨y1.heap.size, 0, none⟩ = some (.string { data := #[97, 112, 97, 114, 116] }) := by rw [hz]; exact cell_old _ (cell_old _ (cell_old _ (cell_new _ _ _ rfl rfl)))
  have hbn : z2.cell? ⟨y1.heap.size + 1 + 1, 0, none⟩ = some (.slice a1 nn c1) := by rw [hz]; exact cell_old _ (cell_new _ _ _ (by simp only [size_alloc]) rfl)
  have hbm : z2.cell? ⟨y1.heap.size + 1 + 1 + 1, 0, none⟩ = some (.int .i64 ((3 : Nat) : Int)) := by rw [hz]; exact cell_new _ _ _ (by simp only [size_alloc]) rfl
  have HB8 := hid hb8
  have HBN := hid hbn
  have HBM := hid hbm
  have hsz : z2.heap.size = y1.heap.size + 4 := by rw [hz]; simp only [size_alloc]
  have HSZ1 := hid hsz
  clear hz hb8 hbn hbm hsz d0 d1 d2 d3
  refine wpIn_rows (F := Fence.wide) (n := 9) (w := z2) (N := (namesP x (ofP p)).length ^ 3) (Rx := RxK z2 (namesP x (ofP p)) 3) rfl (by decide) (gf := 107) (lb := #[.pointer (some ⟨y1.heap.size + 1 + 1 + 1, 0, none⟩), .pointer (some ⟨y1.heap.size + 1 + 1, 0, none⟩)]) rfl trivial (enters_of Tryz.func107 (by kernel_rfl) rfl)
   (rows1_seq 8 (by decide) (by decide) (by decide) (by rw [← HNN.out]; omega) (by rw [← HNN.out]; omega) (HN1.out.to (Kept.ext ((HY1.out.trans HE1.out).trans HZ.out) New.lt) (fun k hk => Nat.lt_of_lt_of_le hk.2 ((HY1.out.trans HE1.out).trans HZ.out).size)) HBM.out HBN.out)
   rx_put (IT z2 x p wApart (namesP x (ofP p)) 3) (IxT W z2 (W.heap.size + 1 + 1 + 1) x p wApart (.slice at_ nt ct) (namesP x (ofP p)) 3) (.exit 0) IT.on IxT.put ⟨Ext.refl _, fun j hj => absurd hj (Nat.not_lt_zero _)⟩
   (fun vr => { tmps := #[.agg #[.slice ap nq cp, .slice aa na ca, .int .i64 x.par, .int .i64 x.vrs], .slice at_ nt ct, .pointer (some ⟨W.heap.size, 0, none⟩), .pointer (some ⟨W.heap.size + 1, 0, none⟩), .pointer (some ⟨W.heap.size + 1 + 1, 0, none⟩), .pointer (some ⟨W.heap.size + 1 + 1 + 1, 0, none⟩), .slice a1 nn c1, .int .i64 1, .pointer (some ⟨y1.heap.size, 0, none⟩), vr, undef, undef, undef, undef, .slice at_ nt ct, .agg #[.string { data := #[] }, .slice none 0 0, .slice at_ nt ct], .agg #[.slice ap nq cp, .slice aa na ca, .int .i64 x.par, .int .i64 x.vrs], .slice at_ nt ct, .slice a1 nn c1, .slice a1 nn c1, .int .i64 (nn : Int), .bool false, .bool false, .slice a1 nn c1, .int .i64 (nn : Int), .bool false, .bool false, undef, .slice (some ⟨bw, 0, none⟩) 4 4, .int .i64 4, .int .i64 1, .bool true, .int .i64 1, .pointer (some ⟨bw, 1, none⟩), .string { data := #[97, 112, 97, 114, 116] }, .slice a1 nn c1, .slice (some ⟨y1.heap.size + 1, 0, none⟩) 4 4, .int .i64 1, .pointer (some ⟨y1.heap.size + 1, 1, none⟩), .int .i64 3, .func (.func 107) #[] #[.pointer (some ⟨y1.heap.size + 1 + 1 + 1, 0, none⟩), .pointer (some ⟨y1.heap.size + 1 + 1, 0, none⟩)], vr, undef, undef, undef, undef, undef, undef, undef, undef, undef, undef, undef, undef, undef, undef, undef, undef, undef, undef, undef, undef, undef, undef, undef, undef, undef, undef, .int .i64 1, undef], defers := [] }) ?assign2 ?body2 ?done2 ?stop2
  case assign2 =>
   intro l vr Y K hK
   gi_wp2
   exact hK
  case body2 =>
   rintro l k vr Y hk ⟨hYx, hno⟩ hrx
   have HYX := hid hYx
   have HNO := hid hno
   have HRX := hid (show Strs (New z2 Y) Y vr (rowK (namesP x (ofP p)) 3 k) from hrx)
   have HKL := hid hk
   have HYW := hid (HZ0.out.trans hYx)
   obtain ⟨⟨e0, e1, e2, e3⟩, e4⟩ := HB.out Y HYW.out
   have e5 := hYx.cell HB8.out
   obtain ⟨row, hrow⟩ : ∃ r, r = rowK (namesP x (ofP p)) 3 k := ⟨_, rfl⟩
   have HRW := hid hrow
   rw [← hrow] at HRX
   have hrl : row.length = 3 := by rw [hrow]; exact rowK_len _ _ _
   have HC := hid (hypo_condition (x := x) (wd := wApart) (names := row) (HXL'.out.on (HX0.out.trans HYW.out)) HOK.out (HRX.out.to (Kept.refl _ _) New.lt) (by decide) (by omega))
   obtain ⟨er, q, hcq⟩ : ∃ er q, condX x wApart row = (er, q) := ⟨_, _, rfl⟩
   rw [hcq] at HC
   unfold wApart at HC
   obtain ⟨ql, hql⟩ : ∃ n, n = (ofP q).length := ⟨_, rfl⟩
   have HQL := hid hql
   have HCQ := hid hcq
   obtain ⟨ar, cr, hvr⟩ := HRX.out.form
   rw [hrl] at hvr
   subst hvr
   clear hYx hno hrx hk hcq hql
   by_cases he : er = 0
   ·subst he
    by_cases hq : q = []
    ·have hb : ((ql : Int) == 0) = true := by rw [HQL.out, hq]; rfl
     have HH : Hid (hitP x p wApart row = false) := hid (by have h := HCQ.out; rw [hq] at h; exact hit_nil h)
     clear hq
     gi_wp2_with (refine ⟨trivial, ?_⟩; gi_at_call 53; refine (CallsIn.inRound l (callsIn_wide.2 HC.out)).mono ?_; rintro e w5 ⟨v5, rfl, hq5, hx5⟩; have HX5 := hid hx5; obtain ⟨aq, cq, e5⟩ := hq5.form; rw [← HQL.out] at e5; subst e5; clear hq5 hx5)
     exact ⟨HX5.out, HYX.out.trans HX5.out, no_succ HNO.out (by rw [← HRW.out]; exact HH.out)⟩
    ·have hb : ((ql : Int) == 0) = false := by rw [beq_eq_false_iff_ne, HQL.out, ofP_len]; have := List.length_pos_iff.2 hq; omega
     have HFQ := hid (cond_fit HOK.out HCQ.out)
     have HH := hid (hit_same (p := p) HCQ.out hq)
     obtain ⟨tt, htt⟩ : ∃ b, b = decide (wholeP q = p) := ⟨_, rfl⟩
     rw [← htt] at HH
     have HTT := hid htt
     clear hq htt
     have C2 := hid (fun (Z : World) (u : Value) (hu : Terms (Old Z) Z u (ofP q)) => poly_whole hu HFQ.out (by decide) (by decide))
     have C3 := hid (fun (Z : World) (u : Value) (hZ : Ext W Z) (hu : Terms (Old Z) Z u (ofP (wholeP q))) => z_same hu (HP.out.on hZ))
     rw [← HTT.out] at C3
     have HBF := hid (fun (Z : World) (hZ : Ext z2 Z) => And.intro (HB.out Z (HZ0.out.trans hZ)) (And.intro (hZ.cell HB8.out) (And.intro (HS.out Z (HZ0.out.trans hZ)).2 (HFZ.out Z (HZ0.out.trans hZ)).2)))
     cases tt with
     | false =>
      gi_wp2_with (first
       | (refine ⟨trivial, ?_⟩; gi_at_call 53; refine (CallsIn.inRound l (callsIn_wide.2 HC.out)).mono ?_; rintro e w5 ⟨v5, rfl, hq5, hx5⟩; have HX5 := hid hx5; have HQ5 := hid hq5; obtain ⟨aq, cq, e5⟩ := hq5.form; rw [← HQL.out] at e5; subst e5; clear hq5 hx5)
       | (refine ⟨trivial, ?_⟩; gi_at_call 32; refine (CallsIn.inRound l (callsIn_wide.2 (C2.out w5 _ (HQ5.out.to (Kept.refl _ _) New.lt)))).mono ?_; rintro e w6 ⟨v6, rfl, hq6, hx6⟩; have HX6 := hid (HX5.out.trans hx6); have HQ6 := hid hq6; obtain ⟨⟨-, e4⟩, -⟩ := HBF.out w6 (HYX.out.trans HX6.out); obtain ⟨a6, c6, rfl⟩ := hq6.form; clear hq6 hx6)
       | (refine ⟨trivial, ?_⟩; gi_at_call 60; refine (CallsIn.inRound l (callsIn_wide.2 (C3.out w6 _ ((HX0.out.trans HYW.out).trans HX6.out) (HQ6.out.to (Kept.refl _ _) New.lt)))).mono ?_; rintro e w7 ⟨rfl, hx7⟩; have HX7 := hid (HX6.out.trans hx7); obtain ⟨-, e5, ⟨t0, t1, t2⟩, g0, g1, g2⟩ := HBF.out w7 (HYX.out.trans HX7.out); clear hx7))
      exact ⟨HX7.out, HYX.out.trans HX7.out, no_succ HNO.out (by rw [← HRW.out]; exact HH.out)⟩
     | true =>
      gi_wp2_with (first
       | (refine ⟨trivial, ?_⟩; gi_at_call 53; refine (CallsIn.inRound l (callsIn_wide.2 HC.out)).mono ?_; rintro e w5 ⟨v5, rfl, hq5, hx5⟩; have HX5 := hid hx5; have HQ5 := hid hq5; obtain ⟨aq, cq, e5⟩ := hq5.form; rw [← HQL.out] at e5; subst e5; clear hq5 hx5)
       | (refine ⟨trivial, ?_⟩; gi_at_call 32; refine (CallsIn.inRound l (callsIn_wide.2 (C2.out w5 _ (HQ5.out.to (Kept.refl _ _) New.lt)))).mono ?_; rintro e w6 ⟨v6, rfl, hq6, hx6⟩; have HX6 := hid (HX5.out.trans hx6); have HQ6 := hid hq6; obtain ⟨⟨-, e4⟩, -⟩ := HBF.out w6 (HYX.out.trans HX6.out); obtain ⟨a6, c6, rfl⟩ := hq6.form; clear hq6 hx6)
       | (refine ⟨trivial, ?_⟩; gi_at_call 60; refine (CallsIn.inRound l (callsIn_wide.2 (C3.out w6 _ ((HX0.out.trans HYW.out).trans HX6.out) (HQ6.out.to (Kept.refl _ _) New.lt)))).mono ?_; rintro e w7 ⟨rfl, hx7⟩; have HX7 := hid (HX6.out.trans hx7); obtain ⟨-, e5, ⟨t0, t1, t2⟩, g0, g1, g2⟩ := HBF.out w7 (HYX.out.trans HX7.out); clear hx7))
      have hsz7 : W.heap.size + 1 + 1 + 1 < z2.heap.size := by have h1 := HSZ.out; have h2 := HZ0.out.size; omega
      have hx7 := HYX.out.trans HX7.out
      have hst : Strs (New z2 w7) w7 (.slice ar 3 cr) row := HRX.out.to (Kept.ext HX7.out New.lt) (fun k hk => ⟨hk.1, Nat.lt_of_lt_of_le hk.2 HX7.out.size⟩)
      have hW0 : W.heap.size ≤ z2.heap.size := by omega
      exact ⟨rfl, ((KeepsOthers.of_ext HX7.out).trans ((KeepsOthers.setCell _ _ _).trans (KeepsOthers.setCell _ _ _))).from _, ixt_of hx7 hW0 (by omega) (by omega) t0 t1 t2 (by rw [← HRW.out]; exact hst) HNO.out (by rw [← HRW.out]; exact HH.out)⟩
   ·have hb : ((er : Int) != 0) = true := by rw [bne_iff_ne]; exact he
    have HH : Hid (hitP x p wApart row = false) := hid (hit_err HCQ.out he)
    clear he
    gi_wp2_with (refine ⟨trivial, ?_⟩; gi_at_call 53; refine (CallsIn.inRound l (callsIn_wide.2 HC.out)).mono ?_; rintro e w5 ⟨v5, rfl, hq5, hx5⟩; have HX5 := hid hx5; obtain ⟨aq, cq, e5⟩ := hq5.form; rw [← HQL.out] at e5; subst e5; clear hq5 hx5)
    exact ⟨HX5.out, HYX.out.trans HX5.out, no_succ HNO.out (by rw [← HRW.out]; exact HH.out)⟩
  case stop2 =>
   rintro D k Y hD hk ⟨⟨hno, hh⟩, ⟨vr, c0, c1, c2, hs⟩, hsz, hW, hbl, hkp⟩ hdd
   have hT : Hid (toldP x p = ⟨wApart, rowK (namesP x (ofP p)) 3 k, ofP p⟩) := hid (told_rest (by rw [← HNN.out]; exact HBD.out) (by
    unfold wordsL
    simp only [toldL, hitW_none HNO1.out, hitW_some hk hno hh]))
   obtain ⟨row, hrow⟩ : ∃ r, r = rowK (namesP x (ofP p)) 3 k := ⟨_, rfl⟩
   have hrl : row.length = 3 := by rw [hrow]; exact rowK_len _ _ _
   rw [← hrow] at hs hT
   have HT := hid hT
   have hK : Kept (fun j => j < z2.heap.size ∧ j ≠ W.heap.size + 1 + 1 + 1) z2 Y := fun j hj => hkp j hj.1 hj.2
   have hb4 : W.heap.size + 1 + 1 < z2.heap.size ∧ W.heap.size + 1 + 1 ≠ W.heap.size + 1 + 1 + 1 := by have h1 := HSZ.out; have h2 := HZ0.out.size; omega
   obtain ⟨⟨s0, s1, s2⟩, -⟩ := HS.out z2 HZ0.out
   obtain ⟨⟨f0, f1, f2⟩, -⟩ := HFZ.out z2 HZ0.out
   have s0 := hK.cell hb4 s0
   have s1 := hK.cell hb4 s1
   have s2 := hK.cell hb4 s2
   have f0 := (kept_frozen hK (i := 0) hb4).trans f0
   have f1 := (kept_frozen hK (i := 1) hb4).trans f1
   have f2 := (kept_frozen hK (i := 2) hb4).trans f2
   have HSR := hid (show Strs (fun k => W.heap.size ≤ k ∧ k < Y.heap.size ∧ k ≠ W.heap.size + 1 + 1) Y vr row from hs.to (Kept.refl _ _) (fun k hk => ⟨by have h1 := hk.1; omega, hk.2, by have h1 := hk.1; have h2 := hb4.1; omega⟩))
   have HWY : Hid (Ext W Y) := hid (Below.trans (HX0.out.trans HZ0.out) hbl)
   have HMK := hid ((HM1.out.ext HZ.out).stop hkp (by have h1 := HSZ.out; have h2 := HZ0.out.size; omega) hD hdd)
   obtain ⟨ar, cr, hvr⟩ := hs.form
   rw [hrl] at hvr
   subst hvr
   clear hno hh hs hsz hW hbl hkp hdd hD hk hT hrow hK hb4
   gi_wp2
   exact told_ret (Ds := [D, D1]) rfl (by omega) HWY.out s0 s1 s2 HSR.out HMK.out.1 (fun E hE => ⟨by have h1 := (HMK.out.2 E hE).1; omega, (HMK.out.2 E hE).2⟩) HT.out
  rintro D2 y2 hD2 ⟨hYx, hno⟩ hdd2
  have HE2 := hid ((HE1.out.trans HZ.out).trans hYx)
  have HNO2 := hid hno
  have HM2 := hid ((HM1.out.ext HZ.out).stop (fun j hj _ => hYx.block j hj) (by have h1 := HSZ.out; have h2 := HZ0.out.size; omega) hD2 hdd2)
  clear hYx hno hD2 hdd2 HZ HZ0 HB8 HBN HBM HSZ1
  gi_wp2
  rw [roundsIn_succ]
  obtain ⟨d0, d1, d2, d3⟩ := HWD.out y2 HE2.out
  gi_wp2_with (refine ⟨trivial, ?_⟩; gi_at_call 72; refine (callsIn_wide.2 (rows_any _ _ _ _ _)).mono ?_; rintro e z3 ⟨rfl, hz⟩)
  rw [← hz]
  have HZ : Hid (Ext y2 z3) := hid (by rw [hz]; exact (((Ext.alloc (Ext.refl _) _).alloc _).alloc _).alloc _)
  have HZ0 := hid ((HY0.out.trans HE2.out).trans HZ.out)
  have hb8 : z3.cell? ⟨y2.heap.size, 0, none⟩ = some (.string { data := #[99, 114, 111, 115, 115] }) := by rw [hz]; exact cell_old _ (cell_old _ (cell_old _ (cell_new _ _ _ rfl rfl)))
  have hbn : z3.cell? ⟨y2.heap.size + 1 + 1, 0, none⟩ = some (.slice a1 nn c1) := by rw [hz]; exact cell_old _ (cell_new _ _ _ (by simp only [size_alloc]) rfl)
  have hbm : z3.cell? ⟨y2.heap.size + 1 + 1 + 1, 0, none⟩ = some (.int .i64 ((4 : Nat) : Int)) := by rw [hz]; exact cell_new _ _ _ (by simp only [size_alloc]) rfl
  have HB8 := hid hb8
  have HBN := hid hbn
  have HBM := hid hbm
  have hsz : z3.heap.size = y2.heap.size + 4 := by rw [hz]; simp only [size_alloc]
  have HSZ1 := hid hsz
  clear hz hb8 hbn hbm hsz d0 d1 d2 d3
  refine wpIn_rows (F := Fence.wide) (n := 9) (w := z3) (N := (namesP x (ofP p)).length ^ 4) (Rx := RxK z3 (namesP x (ofP p)) 4) rfl (by decide) (gf := 107) (lb := #[.pointer (some ⟨y2.heap.size + 1 + 1 + 1, 0, none⟩), .pointer (some ⟨y2.heap.size + 1 + 1, 0, none⟩)]) rfl trivial (enters_of Tryz.func107 (by kernel_rfl) rfl)
   (rows1_seq 8 (by decide) (by decide) (by decide) (by rw [← HNN.out]; omega) (by rw [← HNN.out]; omega) (HN1.out.to (Kept.ext ((HY1.out.trans HE2.out).trans HZ.out) New.lt) (fun k hk => Nat.lt_of_lt_of_le hk.2 ((HY1.out.trans HE2.out).trans HZ.out).size)) HBM.out HBN.out)
   rx_put (IT z3 x p wCross (namesP x (ofP p)) 4) (IxT W z3 (W.heap.size + 1 + 1 + 1) x p wCross (.slice at_ nt ct) (namesP x (ofP p)) 4) (.exit 0) IT.on IxT.put ⟨Ext.refl _, fun j hj => absurd hj (Nat.not_lt_zero _)⟩
   (fun vr => { tmps := #[.agg #[.slice ap nq cp, .slice aa na ca, .int .i64 x.par, .int .i64 x.vrs], .slice at_ nt ct, .pointer (some ⟨W.heap.size, 0, none⟩), .pointer (some ⟨W.heap.size + 1, 0, none⟩), .pointer (some ⟨W.heap.size + 1 + 1, 0, none⟩), .pointer (some ⟨W.heap.size + 1 + 1 + 1, 0, none⟩), .slice a1 nn c1, .int .i64 2, .pointer (some ⟨y2.heap.size, 0, none⟩), vr, undef, undef, undef, undef, .slice at_ nt ct, .agg #[.string { data := #[] }, .slice none 0 0, .slice at_ nt ct], .agg #[.slice ap nq cp, .slice aa na ca, .int .i64 x.par, .int .i64 x.vrs], .slice at_ nt ct, .slice a1 nn c1, .slice a1 nn c1, .int .i64 (nn : Int), .bool false, .bool false, .slice a1 nn c1, .int .i64 (nn : Int), .bool false, .bool false, undef, .slice (some ⟨bw, 0, none⟩) 4 4, .int .i64 4, .int .i64 2, .bool true, .int .i64 2, .pointer (some ⟨bw, 2, none⟩), .string { data := #[99, 114, 111, 115, 115] }, .slice a1 nn c1, .slice (some ⟨y2.heap.size + 1, 0, none⟩) 4 4, .int .i64 2, .pointer (some ⟨y2.heap.size + 1, 2, none⟩), .int .i64 4, .func (.func 107) #[] #[.pointer (some ⟨y2.heap.size + 1 + 1 + 1, 0, none⟩), .pointer (some ⟨y2.heap.size + 1 + 1, 0, none⟩)], vr, undef, undef, undef, undef, undef, undef, undef, undef, undef, undef, undef, undef, undef, undef, undef, undef, undef, undef, undef, undef, undef, undef, undef, undef, undef, undef, .int .i64 2, undef], defers := [] }) ?assign3 ?body3 ?done3 ?stop3
  case assign3 =>
   intro l vr Y K hK
   gi_wp2
   exact hK
  case body3 =>
   rintro l k vr Y hk ⟨hYx, hno⟩ hrx
   have HYX := hid hYx
   have HNO := hid hno
   have HRX := hid (show Strs (New z3 Y) Y vr (rowK (namesP x (ofP p)) 4 k) from hrx)
   have HKL := hid hk
   have HYW := hid (HZ0.out.trans hYx)
   obtain ⟨⟨e0, e1, e2, e3⟩, e4⟩ := HB.out Y HYW.out
   have e5 := hYx.cell HB8.out
   obtain ⟨row, hrow⟩ : ∃ r, r = rowK (namesP x (ofP p)) 4 k := ⟨_, rfl⟩
   have HRW := hid hrow
   rw [← hrow] at HRX
   have hrl : row.length = 4 := by rw [hrow]; exact rowK_len _ _ _
   have HC := hid (hypo_condition (x := x) (wd := wCross) (names := row) (HXL'.out.on (HX0.out.trans HYW.out)) HOK.out (HRX.out.to (Kept.refl _ _) New.lt) (by decide) (by omega))
   obtain ⟨er, q, hcq⟩ : ∃ er q, condX x wCross row = (er, q) := ⟨_, _, rfl⟩
   rw [hcq] at HC
   unfold wCross at HC
   obtain ⟨ql, hql⟩ : ∃ n, n = (ofP q).length := ⟨_, rfl⟩
   have HQL := hid hql
   have HCQ := hid hcq
   obtain ⟨ar, cr, hvr⟩ := HRX.out.form
   rw [hrl] at hvr
   subst hvr
   clear hYx hno hrx hk hcq hql
   by_cases he : er = 0
   ·subst he
    by_cases hq : q = []
    ·have hb : ((ql : Int) == 0) = true := by rw [HQL.out, hq]; rfl
     have HH : Hid (hitP x p wCross row = false) := hid (by have h := HCQ.out; rw [hq] at h; exact hit_nil h)
     clear hq
     gi_wp2_with (refine ⟨trivial, ?_⟩; gi_at_call 53; refine (CallsIn.inRound l (callsIn_wide.2 HC.out)).mono ?_; rintro e w5 ⟨v5, rfl, hq5, hx5⟩; have HX5 := hid hx5; obtain ⟨aq, cq, e5⟩ := hq5.form; rw [← HQL.out] at e5; subst e5; clear hq5 hx5)
     exact ⟨HX5.out, HYX.out.trans HX5.out, no_succ HNO.out (by rw [← HRW.out]; exact HH.out)⟩
    ·have hb : ((ql : Int) == 0) = false := by rw [beq_eq_false_iff_ne, HQL.out, ofP_len]; have := List.length_pos_iff.2 hq; omega
     have HFQ := hid (cond_fit HOK.out HCQ.out)
     have HH := hid (hit_same (p := p) HCQ.out hq)
     obtain ⟨tt, htt⟩ : ∃ b, b = decide (wholeP q = p) := ⟨_, rfl⟩
     rw [← htt] at HH
     have HTT := hid htt
     clear hq htt
     have C2 := hid (fun (Z : World) (u : Value) (hu : Terms (Old Z) Z u (ofP q)) => poly_whole hu HFQ.out (by decide) (by decide))
     have C3 := hid (fun (Z : World) (u : Value) (hZ : Ext W Z) (hu : Terms (Old Z) Z u (ofP (wholeP q))) => z_same hu (HP.out.on hZ))
     rw [← HTT.out] at C3
     have HBF := hid (fun (Z : World) (hZ : Ext z3 Z) => And.intro (HB.out Z (HZ0.out.trans hZ)) (And.intro (hZ.cell HB8.out) (And.intro (HS.out Z (HZ0.out.trans hZ)).2 (HFZ.out Z (HZ0.out.trans hZ)).2)))
     cases tt with
     | false =>
      gi_wp2_with (first
       | (refine ⟨trivial, ?_⟩; gi_at_call 53; refine (CallsIn.inRound l (callsIn_wide.2 HC.out)).mono ?_; rintro e w5 ⟨v5, rfl, hq5, hx5⟩; have HX5 := hid hx5; have HQ5 := hid hq5; obtain ⟨aq, cq, e5⟩ := hq5.form; rw [← HQL.out] at e5; subst e5; clear hq5 hx5)
       | (refine ⟨trivial, ?_⟩; gi_at_call 32; refine (CallsIn.inRound l (callsIn_wide.2 (C2.out w5 _ (HQ5.out.to (Kept.refl _ _) New.lt)))).mono ?_; rintro e w6 ⟨v6, rfl, hq6, hx6⟩; have HX6 := hid (HX5.out.trans hx6); have HQ6 := hid hq6; obtain ⟨⟨-, e4⟩, -⟩ := HBF.out w6 (HYX.out.trans HX6.out); obtain ⟨a6, c6, rfl⟩ := hq6.form; clear hq6 hx6)
       | (refine ⟨trivial, ?_⟩; gi_at_call 60; refine (CallsIn.inRound l (callsIn_wide.2 (C3.out w6 _ ((HX0.out.trans HYW.out).trans HX6.out) (HQ6.out.to (Kept.refl _ _) New.lt)))).mono ?_; rintro e w7 ⟨rfl, hx7⟩; have HX7 := hid (HX6.out.trans hx7); obtain ⟨-, e5, ⟨t0, t1, t2⟩, g0, g1, g2⟩ := HBF.out w7 (HYX.out.trans HX7.out); clear hx7))
      exact ⟨HX7.out, HYX.out.trans HX7.out, no_succ HNO.out (by rw [← HRW.out]; exact HH.out)⟩
     | true =>
      gi_wp2_with (first
       | (refine ⟨trivial, ?_⟩; gi_at_call 53; refine (CallsIn.inRound l (callsIn_wide.2 HC.out)).mono ?_; rintro e w5 ⟨v5, rfl, hq5, hx5⟩; have HX5 := hid hx5; have HQ5 := hid hq5; obtain ⟨aq, cq, e5⟩ := hq5.form; rw [← HQL.out] at e5; subst e5; clear hq5 hx5)
       | (refine ⟨trivial, ?_⟩; gi_at_call 32; refine (CallsIn.inRound l (callsIn_wide.2 (C2.out w5 _ (HQ5.out.to (Kept.refl _ _) New.lt)))).mono ?_; rintro e w6 ⟨v6, rfl, hq6, hx6⟩; have HX6 := hid (HX5.out.trans hx6); have HQ6 := hid hq6; obtain ⟨⟨-, e4⟩, -⟩ := HBF.out w6 (HYX.out.trans HX6.out); obtain ⟨a6, c6, rfl⟩ := hq6.form; clear hq6 hx6)
       | (refine ⟨trivial, ?_⟩; gi_at_call 60; refine (CallsIn.inRound l (callsIn_wide.2 (C3.out w6 _ ((HX0.out.trans HYW.out).trans HX6.out) (HQ6.out.to (Kept.refl _ _) New.lt)))).mono ?_; rintro e w7 ⟨rfl, hx7⟩; have HX7 := hid (HX6.out.trans hx7); obtain ⟨-, e5, ⟨t0, t1, t2⟩, g0, g1, g2⟩ := HBF.out w7 (HYX.out.trans HX7.out); clear hx7))
      have hsz7 : W.heap.size + 1 + 1 + 1 < z3.heap.size := by have h1 := HSZ.out; have h2 := HZ0.out.size; omega
      have hx7 := HYX.out.trans HX7.out
      have hst : Strs (New z3 w7) w7 (.slice ar 4 cr) row := HRX.out.to (Kept.ext HX7.out New.lt) (fun k hk => ⟨hk.1, Nat.lt_of_lt_of_le hk.2 HX7.out.size⟩)
      have hW0 : W.heap.size ≤ z3.heap.size := by omega
      exact ⟨rfl, ((KeepsOthers.of_ext HX7.out).trans ((KeepsOthers.setCell _ _ _).trans (KeepsOthers.setCell _ _ _))).from _, ixt_of hx7 hW0 (by omega) (by omega) t0 t1 t2 (by rw [← HRW.out]; exact hst) HNO.out (by rw [← HRW.out]; exact HH.out)⟩
   ·have hb : ((er : Int) != 0) = true := by rw [bne_iff_ne]; exact he
    have HH : Hid (hitP x p wCross row = false) := hid (hit_err HCQ.out he)
    clear he
    gi_wp2_with (refine ⟨trivial, ?_⟩; gi_at_call 53; refine (CallsIn.inRound l (callsIn_wide.2 HC.out)).mono ?_; rintro e w5 ⟨v5, rfl, hq5, hx5⟩; have HX5 := hid hx5; obtain ⟨aq, cq, e5⟩ := hq5.form; rw [← HQL.out] at e5; subst e5; clear hq5 hx5)
    exact ⟨HX5.out, HYX.out.trans HX5.out, no_succ HNO.out (by rw [← HRW.out]; exact HH.out)⟩
  case stop3 =>
   rintro D k Y hD hk ⟨⟨hno, hh⟩, ⟨vr, c0, c1, c2, hs⟩, hsz, hW, hbl, hkp⟩ hdd
   have hT : Hid (toldP x p = ⟨wCross, rowK (namesP x (ofP p)) 4 k, ofP p⟩) := hid (told_rest (by rw [← HNN.out]; exact HBD.out) (by
    unfold wordsL
    simp only [toldL, hitW_none HNO1.out, hitW_none HNO2.out, hitW_some hk hno hh]))
   obtain ⟨row, hrow⟩ : ∃ r, r = rowK (namesP x (ofP p)) 4 k := ⟨_, rfl⟩
   have hrl : row.length = 4 := by rw [hrow]; exact rowK_len _ _ _
   rw [← hrow] at hs hT
   have HT := hid hT
   have hK : Kept (fun j => j < z3.heap.size ∧ j ≠ W.heap.size + 1 + 1 + 1) z3 Y := fun j hj => hkp j hj.1 hj.2
   have hb4 : W.heap.size + 1 + 1 < z3.heap.size ∧ W.heap.size + 1 + 1 ≠ W.heap.size + 1 + 1 + 1 := by have h1 := HSZ.out; have h2 := HZ0.out.size; omega
   obtain ⟨⟨s0, s1, s2⟩, -⟩ := HS.out z3 HZ0.out
   obtain ⟨⟨f0, f1, f2⟩, -⟩ := HFZ.out z3 HZ0.out
   have s0 := hK.cell hb4 s0
   have s1 := hK.cell hb4 s1
   have s2 := hK.cell hb4 s2
   have f0 := (kept_frozen hK (i := 0) hb4).trans f0
   have f1 := (kept_frozen hK (i := 1) hb4).trans f1
   have f2 := (kept_frozen hK (i := 2) hb4).trans f2
   have HSR := hid (show Strs (fun k => W.heap.size ≤ k ∧ k < Y.heap.size ∧ k ≠ W.heap.size + 1 + 1) Y vr row from hs.to (Kept.refl _ _) (fun k hk => ⟨by have h1 := hk.1; omega, hk.2, by have h1 := hk.1; have h2 := hb4.1; omega⟩))
   have HWY : Hid (Ext W Y) := hid (Below.trans (HX0.out.trans HZ0.out) hbl)
   have HMK := hid ((HM2.out.ext HZ.out).stop hkp (by have h1 := HSZ.out; have h2 := HZ0.out.size; omega) hD hdd)
   obtain ⟨ar, cr, hvr⟩ := hs.form
   rw [hrl] at hvr
   subst hvr
   clear hno hh hs hsz hW hbl hkp hdd hD hk hT hrow hK hb4
   gi_wp2
   exact told_ret (Ds := [D, D2, D1]) rfl (by omega) HWY.out s0 s1 s2 HSR.out HMK.out.1 (fun E hE => ⟨by have h1 := (HMK.out.2 E hE).1; omega, (HMK.out.2 E hE).2⟩) HT.out
  rintro D3 y3 hD3 ⟨hYx, hno⟩ hdd3
  have HE3 := hid ((HE2.out.trans HZ.out).trans hYx)
  have HNO3 := hid hno
  have HM3 := hid ((HM2.out.ext HZ.out).stop (fun j hj _ => hYx.block j hj) (by have h1 := HSZ.out; have h2 := HZ0.out.size; omega) hD3 hdd3)
  clear hYx hno hD3 hdd3 HZ HZ0 HB8 HBN HBM HSZ1
  gi_wp2
  rw [roundsIn_succ]
  obtain ⟨d0, d1, d2, d3⟩ := HWD.out y3 HE3.out
  gi_wp2_with (refine ⟨trivial, ?_⟩; gi_at_call 72; refine (callsIn_wide.2 (rows_any _ _ _ _ _)).mono ?_; rintro e z4 ⟨rfl, hz⟩)
  rw [← hz]
  have HZ : Hid (Ext y3 z4) := hid (by rw [hz]; exact (((Ext.alloc (Ext.refl _) _).alloc _).alloc _).alloc _)
  have HZ0 := hid ((HY0.out.trans HE3.out).trans HZ.out)
  have hb8 : z4.cell? ⟨y3.heap.size, 0, none⟩ = some (.string { data := #[100, 111, 116] }) := by rw [hz]; exact cell_old _ (cell_old _ (cell_old _ (cell_new _ _ _ rfl rfl)))
  have hbn : z4.cell? ⟨y3.heap.size + 1 + 1, 0, none⟩ = some (.slice a1 nn c1) := by rw [hz]; exact cell_old _ (cell_new _ _ _ (by simp only [size_alloc]) rfl)
  have hbm : z4.cell? ⟨y3.heap.size + 1 + 1 + 1, 0, none⟩ = some (.int .i64 ((4 : Nat) : Int)) := by rw [hz]; exact cell_new _ _ _ (by simp only [size_alloc]) rfl
  have HB8 := hid hb8
  have HBN := hid hbn
  have HBM := hid hbm
  have hsz : z4.heap.size = y3.heap.size + 4 := by rw [hz]; simp only [size_alloc]
  have HSZ1 := hid hsz
  clear hz hb8 hbn hbm hsz d0 d1 d2 d3
  refine wpIn_rows (F := Fence.wide) (n := 9) (w := z4) (N := (namesP x (ofP p)).length ^ 4) (Rx := RxK z4 (namesP x (ofP p)) 4) rfl (by decide) (gf := 107) (lb := #[.pointer (some ⟨y3.heap.size + 1 + 1 + 1, 0, none⟩), .pointer (some ⟨y3.heap.size + 1 + 1, 0, none⟩)]) rfl trivial (enters_of Tryz.func107 (by kernel_rfl) rfl)
   (rows1_seq 8 (by decide) (by decide) (by decide) (by rw [← HNN.out]; omega) (by rw [← HNN.out]; omega) (HN1.out.to (Kept.ext ((HY1.out.trans HE3.out).trans HZ.out) New.lt) (fun k hk => Nat.lt_of_lt_of_le hk.2 ((HY1.out.trans HE3.out).trans HZ.out).size)) HBM.out HBN.out)
   rx_put (IT z4 x p wDot (namesP x (ofP p)) 4) (IxT W z4 (W.heap.size + 1 + 1 + 1) x p wDot (.slice at_ nt ct) (namesP x (ofP p)) 4) (.exit 0) IT.on IxT.put ⟨Ext.refl _, fun j hj => absurd hj (Nat.not_lt_zero _)⟩
   (fun vr => { tmps := #[.agg #[.slice ap nq cp, .slice aa na ca, .int .i64 x.par, .int .i64 x.vrs], .slice at_ nt ct, .pointer (some ⟨W.heap.size, 0, none⟩), .pointer (some ⟨W.heap.size + 1, 0, none⟩), .pointer (some ⟨W.heap.size + 1 + 1, 0, none⟩), .pointer (some ⟨W.heap.size + 1 + 1 + 1, 0, none⟩), .slice a1 nn c1, .int .i64 3, .pointer (some ⟨y3.heap.size, 0, none⟩), vr, undef, undef, undef, undef, .slice at_ nt ct, .agg #[.string { data := #[] }, .slice none 0 0, .slice at_ nt ct], .agg #[.slice ap nq cp, .slice aa na ca, .int .i64 x.par, .int .i64 x.vrs], .slice at_ nt ct, .slice a1 nn c1, .slice a1 nn c1, .int .i64 (nn : Int), .bool false, .bool false, .slice a1 nn c1, .int .i64 (nn : Int), .bool false, .bool false, undef, .slice (some ⟨bw, 0, none⟩) 4 4, .int .i64 4, .int .i64 3, .bool true, .int .i64 3, .pointer (some ⟨bw, 3, none⟩), .string { data := #[100, 111, 116] }, .slice a1 nn c1, .slice (some ⟨y3.heap.size + 1, 0, none⟩) 4 4, .int .i64 3, .pointer (some ⟨y3.heap.size + 1, 3, none⟩), .int .i64 4, .func (.func 107) #[] #[.pointer (some ⟨y3.heap.size + 1 + 1 + 1, 0, none⟩), .pointer (some ⟨y3.heap.size + 1 + 1, 0, none⟩)], vr, undef, undef, undef, undef, undef, undef, undef, undef, undef, undef, undef, undef, undef, undef, undef, undef, undef, undef, undef, undef, undef, undef, undef, undef, undef, undef, .int .i64 3, undef], defers := [] }) ?assign4 ?body4 ?done4 ?stop4
  case assign4 =>
   intro l vr Y K hK
   gi_wp2
   exact hK
  case body4 =>
   rintro l k vr Y hk ⟨hYx, hno⟩ hrx
   have HYX := hid hYx
   have HNO := hid hno
   have HRX := hid (show Strs (New z4 Y) Y vr (rowK (namesP x (ofP p)) 4 k) from hrx)
   have HKL := hid hk
   have HYW := hid (HZ0.out.trans hYx)
   obtain ⟨⟨e0, e1, e2, e3⟩, e4⟩ := HB.out Y HYW.out
   have e5 := hYx.cell HB8.out
   obtain ⟨row, hrow⟩ : ∃ r, r = rowK (namesP x (ofP p)) 4 k := ⟨_, rfl⟩
   have HRW := hid hrow
   rw [← hrow] at HRX
   have hrl : row.length = 4 := by rw [hrow]; exact rowK_len _ _ _
   have HC := hid (hypo_condition (x := x) (wd := wDot) (names := row) (HXL'.out.on (HX0.out.trans HYW.out)) HOK.out (HRX.out.to (Kept.refl _ _) New.lt) (by decide) (by omega))
   obtain ⟨er, q, hcq⟩ : ∃ er q, condX x wDot row = (er, q) := ⟨_, _, rfl⟩
   rw [hcq] at HC
   unfold wDot at HC
   obtain ⟨ql, hql⟩ : ∃ n, n = (ofP q).length := ⟨_, rfl⟩
   have HQL := hid hql
   have HCQ := hid hcq
   obtain ⟨ar, cr, hvr⟩ := HRX.out.form
   rw [hrl] at hvr
   subst hvr
   clear hYx hno hrx hk hcq hql
   by_cases he : er = 0
   ·subst he
    by_cases hq : q = []
    ·have hb : ((ql : Int) == 0) = true := by rw [HQL.out, hq]; rfl
     have HH : Hid (hitP x p wDot row = false) := hid (by have h := HCQ.out; rw [hq] at h; exact hit_nil h)
     clear hq
     gi_wp2_with (refine ⟨trivial, ?_⟩; gi_at_call 53; refine (CallsIn.inRound l (callsIn_wide.2 HC.out)).mono ?_; rintro e w5 ⟨v5, rfl, hq5, hx5⟩; have HX5 := hid hx5; obtain ⟨aq, cq, e5⟩ := hq5.form; rw [← HQL.out] at e5; subst e5; clear hq5 hx5)
     exact ⟨HX5.out, HYX.out.trans HX5.out, no_succ HNO.out (by rw [← HRW.out]; exact HH.out)⟩
    ·have hb : ((ql : Int) == 0) = false := by rw [beq_eq_false_iff_ne, HQL.out, ofP_len]; have := List.length_pos_iff.2 hq; omega
     have HFQ := hid (cond_fit HOK.out HCQ.out)
     have HH := hid (hit_same (p := p) HCQ.out hq)
     obtain ⟨tt, htt⟩ : ∃ b, b = decide (wholeP q = p) := ⟨_, rfl⟩
     rw [← htt] at HH
     have HTT := hid htt
     clear hq htt
     have C2 := hid (fun (Z : World) (u : Value) (hu : Terms (Old Z) Z u (ofP q)) => poly_whole hu HFQ.out (by decide) (by decide))
     have C3 := hid (fun (Z : World) (u : Value) (hZ : Ext W Z) (hu : Terms (Old Z) Z u (ofP (wholeP q))) => z_same hu (HP.out.on hZ))
     rw [← HTT.out] at C3
     have HBF := hid (fun (Z : World) (hZ : Ext z4 Z) => And.intro (HB.out Z (HZ0.out.trans hZ)) (And.intro (hZ.cell HB8.out) (And.intro (HS.out Z (HZ0.out.trans hZ)).2 (HFZ.out Z (HZ0.out.trans hZ)).2)))
     cases tt with
     | false =>
      gi_wp2_with (first
       | (refine ⟨trivial, ?_⟩; gi_at_call 53; refine (CallsIn.inRound l (callsIn_wide.2 HC.out)).mono ?_; rintro e w5 ⟨v5, rfl, hq5, hx5⟩; have HX5 := hid hx5; have HQ5 := hid hq5; obtain ⟨aq, cq, e5⟩ := hq5.form; rw [← HQL.out] at e5; subst e5; clear hq5 hx5)
       | (refine ⟨trivial, ?_⟩; gi_at_call 32; refine (CallsIn.inRound l (callsIn_wide.2 (C2.out w5 _ (HQ5.out.to (Kept.refl _ _) New.lt)))).mono ?_; rintro e w6 ⟨v6, rfl, hq6, hx6⟩; have HX6 := hid (HX5.out.trans hx6); have HQ6 := hid hq6; obtain ⟨⟨-, e4⟩, -⟩ := HBF.out w6 (HYX.out.trans HX6.out); obtain ⟨a6, c6, rfl⟩ := hq6.form; clear hq6 hx6)
       | (refine ⟨trivial, ?_⟩; gi_at_call 60; refine (CallsIn.inRound l (callsIn_wide.2 (C3.out w6 _ ((HX0.out.trans HYW.out).trans HX6.out) (HQ6.out.to (Kept.refl _ _) New.lt)))).mono ?_; rintro e w7 ⟨rfl, hx7⟩; have HX7 := hid (HX6.out.trans hx7); obtain ⟨-, e5, ⟨t0, t1, t2⟩, g0, g1, g2⟩ := HBF.out w7 (HYX.out.trans HX7.out); clear hx7))
      exact ⟨HX7.out, HYX.out.trans HX7.out, no_succ HNO.out (by rw [← HRW.out]; exact HH.out)⟩
     | true =>
      gi_wp2_with (first
       | (refine ⟨trivial, ?_⟩; gi_at_call 53; refine (CallsIn.inRound l (callsIn_wide.2 HC.out)).mono ?_; rintro e w5 ⟨v5, rfl, hq5, hx5⟩; have HX5 := hid hx5; have HQ5 := hid hq5; obtain ⟨aq, cq, e5⟩ := hq5.form; rw [← HQL.out] at e5; subst e5; clear hq5 hx5)
       | (refine ⟨trivial, ?_⟩; gi_at_call 32; refine (CallsIn.inRound l (callsIn_wide.2 (C2.out w5 _ (HQ5.out.to (Kept.refl _ _) New.lt)))).mono ?_; rintro e w6 ⟨v6, rfl, hq6, hx6⟩; have HX6 := hid (HX5.out.trans hx6); have HQ6 := hid hq6; obtain ⟨⟨-, e4⟩, -⟩ := HBF.out w6 (HYX.out.trans HX6.out); obtain ⟨a6, c6, rfl⟩ := hq6.form; clear hq6 hx6)
       | (refine ⟨trivial, ?_⟩; gi_at_call 60; refine (CallsIn.inRound l (callsIn_wide.2 (C3.out w6 _ ((HX0.out.trans HYW.out).trans HX6.out) (HQ6.out.to (Kept.refl _ _) New.lt)))).mono ?_; rintro e w7 ⟨rfl, hx7⟩; have HX7 := hid (HX6.out.trans hx7); obtain ⟨-, e5, ⟨t0, t1, t2⟩, g0, g1, g2⟩ := HBF.out w7 (HYX.out.trans HX7.out); clear hx7))
      have hsz7 : W.heap.size + 1 + 1 + 1 < z4.heap.size := by have h1 := HSZ.out; have h2 := HZ0.out.size; omega
      have hx7 := HYX.out.trans HX7.out
      have hst : Strs (New z4 w7) w7 (.slice ar 4 cr) row := HRX.out.to (Kept.ext HX7.out New.lt) (fun k hk => ⟨hk.1, Nat.lt_of_lt_of_le hk.2 HX7.out.size⟩)
      have hW0 : W.heap.size ≤ z4.heap.size := by omega
      exact ⟨rfl, ((KeepsOthers.of_ext HX7.out).trans ((KeepsOthers.setCell _ _ _).trans (KeepsOthers.setCell _ _ _))).from _, ixt_of hx7 hW0 (by omega) (by omega) t0 t1 t2 (by rw [← HRW.out]; exact hst) HNO.out (by rw [← HRW.out]; exact HH.out)⟩
   ·have hb : ((er : Int) != 0) = true := by rw [bne_iff_ne]; exact he
    have HH : Hid (hitP x p wDot row = false) := hid (hit_err HCQ.out he)
    clear he
    gi_wp2_with (refine ⟨trivial, ?_⟩; gi_at_call 53; refine (CallsIn.inRound l (callsIn_wide.2 HC.out)).mono ?_; rintro e w5 ⟨v5, rfl, hq5, hx5⟩; have HX5 := hid hx5; obtain ⟨aq, cq, e5⟩ := hq5.form; rw [← HQL.out] at e5; subst e5; clear hq5 hx5)
    exact ⟨HX5.out, HYX.out.trans HX5.out, no_succ HNO.out (by rw [← HRW.out]; exact HH.out)⟩
  case stop4 =>
   rintro D k Y hD hk ⟨⟨hno, hh⟩, ⟨vr, c0, c1, c2, hs⟩, hsz, hW, hbl, hkp⟩ hdd
   have hT : Hid (toldP x p = ⟨wDot, rowK (namesP x (ofP p)) 4 k, ofP p⟩) := hid (told_rest (by rw [← HNN.out]; exact HBD.out) (by
    unfold wordsL
    simp only [toldL, hitW_none HNO1.out, hitW_none HNO2.out, hitW_none HNO3.out, hitW_some hk hno hh]))
   obtain ⟨row, hrow⟩ : ∃ r, r = rowK (namesP x (ofP p)) 4 k := ⟨_, rfl⟩
   have hrl : row.length = 4 := by rw [hrow]; exact rowK_len _ _ _
   rw [← hrow] at hs hT
   have HT := hid hT
   have hK : Kept (fun j => j < z4.heap.size ∧ j ≠ W.heap.size + 1 + 1 + 1) z4 Y := fun j hj => hkp j hj.1 hj.2
   have hb4 : W.heap.size + 1 + 1 < z4.heap.size ∧ W.heap.size + 1 + 1 ≠ W.heap.size + 1 + 1 + 1 := by have h1 := HSZ.out; have h2 := HZ0.out.size; omega
   obtain ⟨⟨s0, s1, s2⟩, -⟩ := HS.out z4 HZ0.out
   obtain ⟨⟨f0, f1, f2⟩, -⟩ := HFZ.out z4 HZ0.out
   have s0 := hK.cell hb4 s0
   have s1 := hK.cell hb4 s1
   have s2 := hK.cell hb4 s2
   have f0 := (kept_frozen hK (i := 0) hb4).trans f0
   have f1 := (kept_frozen hK (i := 1) hb4).trans f1
   have f2 := (kept_frozen hK (i := 2) hb4).trans f2
   have HSR := hid (show Strs (fun k => W.heap.size ≤ k ∧ k < Y.heap.size ∧ k ≠ W.heap.size + 1 + 1) Y vr row from hs.to (Kept.refl _ _) (fun k hk => ⟨by have h1 := hk.1; omega, hk.2, by have h1 := hk.1; have h2 := hb4.1; omega⟩))
   have HWY : Hid (Ext W Y) := hid (Below.trans (HX0.out.trans HZ0.out) hbl)
   have HMK := hid ((HM3.out.ext HZ.out).stop hkp (by have h1 := HSZ.out; have h2 := HZ0.out.size; omega) hD hdd)
   obtain ⟨ar, cr, hvr⟩ := hs.form
   rw [hrl] at hvr
   subst hvr
   clear hno hh hs hsz hW hbl hkp hdd hD hk hT hrow hK hb4
   gi_wp2
   exact told_ret (Ds := [D, D3, D2, D1]) rfl (by omega) HWY.out s0 s1 s2 HSR.out HMK.out.1 (fun E hE => ⟨by have h1 := (HMK.out.2 E hE).1; omega, (HMK.out.2 E hE).2⟩) HT.out
  rintro D4 y4 hD4 ⟨hYx, hno⟩ hdd4
  have HE4 := hid ((HE3.out.trans HZ.out).trans hYx)
  have HNO4 := hid hno
  have HM4 := hid ((HM3.out.ext HZ.out).stop (fun j hj _ => hYx.block j hj) (by have h1 := HSZ.out; have h2 := HZ0.out.size; omega) hD4 hdd4)
  clear hYx hno hD4 hdd4 HZ HZ0 HB8 HBN HBM HSZ1
  gi_wp2
  have HT := hid (told_none (x := x) (p := p) (by rw [← HNN.out]; exact HBD.out) (by
   unfold wordsL
   simp only [toldL, hitW_none HNO1.out, hitW_none HNO2.out, hitW_none HNO3.out, hitW_none HNO4.out]))
  obtain ⟨⟨s0, s1, s2⟩, t0, t1, t2⟩ := HS.out y4 (HY0.out.trans HE4.out)
  obtain ⟨⟨f0, f1, f2⟩, -⟩ := HFZ.out y4 (HY0.out.trans HE4.out)
  rw [roundsIn_succ]
  gi_wp2
  exact told_ret (Ds := [D4, D3, D2, D1]) rfl (by omega) (HX0.out.trans (HY0.out.trans HE4.out)) s0 s1 s2 ⟨0, 0, ⟨none, 0, rfl, Nat.le_refl _, Nat.zero_le _, fun h => absurd h (by simp), fun h => absurd h (by simp)⟩, fun j x hj => by simp at hj⟩ HM4.out.1 (fun E hE => ⟨by have h1 := (HM4.out.2 E hE).1; omega, (HM4.out.2 E hE).2⟩) HT.out
end
section
open Go.RowKit
def sideP (x : Lay) (ts : List RTerm) : Int × SideD := if mayT ts = false ∨ ts = [] then (2, ⟨ByteArray.empty, [], []⟩) else (0, toldP x (wholeP (plainP ts)))
theorem told_poly (x : Lay) (p : PZ) : (toldP x p).poly = ofP p := by
 unfold toldP
 split
 ·rfl
 ·split <;> rfl
theorem side_of {W : World} {v vp : Value} {x : Lay} {ts : List RTerm} {k n : Nat} (hx : LayV (Old W) W v x) (hok : ∀ c ∈ x.ats, Ok2 c) (hp : Terms (Old W) W vp ts) (hlk : ∀ t ∈ ts, t.c.mag.length ≤ k) (hk : k ≤ 1000000) (hln : ts.length ≤ n) (hn : n ≤ 1000000000000) (hpl : x.pts.length ≤ 1000) (hal : x.ats.length ≤ 1000) :
  Calls Tryz.prog 9 #[v, vp] W fun e w' => ∃ v', e = .returned (.tuple #[v', .int .i64 (sideP x ts).1]) ∧ SideV (New W w') w' v' (sideP x ts).2 ∧ Ext W w' := by
 have hnot : ∀ (x : Bool) (w : World), (Op.unary .not (.bool x)).run Tryz.prog w = .ok (.bool (!x)) w := fun _ _ => rfl
 have HXL := hid hx
 have HP := hid hp
 have HOK := hid hok
 have hsm : smallT ts := fun t ht => Nat.le_trans (hlk t ht) (Nat.le_trans hk (by decide))
 have CM := fun (Y : World) (hY : Ext W Y) => poly_may (S := Old Y) vp ts Y (hp.on hY) (fun _ h => h) hsm
 obtain ⟨vq, va, rfl, hq, ha⟩ := hx
 obtain ⟨ap, cp, rfl⟩ := hq.form
 obtain ⟨aa, ca, rfl⟩ := ha.form
 obtain ⟨at_, ct, e0⟩ := hp.form
 obtain ⟨nt, hnt⟩ : ∃ n, n = ts.length := ⟨_, rfl⟩
 rw [← hnt] at e0
 subst e0
 obtain ⟨nq, hnq⟩ : ∃ n, n = x.pts.length := ⟨_, rfl⟩
 obtain ⟨na, hna⟩ : ∃ n, n = x.ats.length := ⟨_, rfl⟩
 rw [← hnq, ← hna] at HXL ⊢
 have HNT := hid hnt
 obtain ⟨w0, hw0⟩ : ∃ Y, Y = (W.alloc (.cells #[.slice ap nq cp, .slice aa na ca, .int .i64 x.par, .int .i64 x.vrs] 35)).alloc (.cells #[.string { data := #[] }, .slice none 0 0, .slice none 0 0] 40) := ⟨_, rfl⟩
 have HX0 : Hid (Ext W w0) := hid (by rw [hw0]; exact (Ext.alloc (Ext.refl _) _).alloc _)
 have HB := hid (fun (Y : World) (hY : Ext w0 Y) => by
  rw [hw0] at hY
  have k0 : ∀ (i : Nat) (u : Value), #[Value.slice ap nq cp, .slice aa na ca, .int .i64 x.par, .int .i64 x.vrs][i]? = some u → Y.cell? ⟨W.heap.size, i, none⟩ = some u := fun i u hu => hY.cell (cell_old _ (cell_new W _ _ rfl hu))
  have k2 : ∀ (i : Nat) (u : Value), #[Value.string { data := #[] }, .slice none 0 0, .slice none 0 0][i]? = some u → Y.cell? ⟨W.heap.size + 1, i, none⟩ = some u := fun i u hu => hY.cell (cell_new _ _ _ (by rw [size_alloc]) hu)
  have f2 : ∀ (i : Nat), Y.frozen? ⟨W.heap.size + 1, i, none⟩ = false := fun i => hY.free (by simp only [size_alloc]; omega) (by have := free_new (W.alloc (.cells #[.slice ap nq cp, .slice aa na ca, .int .i64 x.par, .int .i64 x.vrs] 35)) #[.string { data := #[] }, .slice none 0 0, .slice none 0 0] 40 (i := i); rwa [size_alloc] at this)
  exact And.intro (And.intro (k0 0 _ rfl) (And.intro (k0 1 _ rfl) (And.intro (k0 2 _ rfl) (k0 3 _ rfl)))) (And.intro (And.intro (k2 0 _ rfl) (And.intro (k2 1 _ rfl) (k2 2 _ rfl))) (And.intro (f2 0) (And.intro (f2 1) (f2 2)))))
 have CM0 := hid (CM w0 HX0.out)
 rw [hw0] at CM0
 have HW0 := hid hw0
 have HSET := hid (fun (Y : World) (a b c : Value) (hY : Ext w0 Y) => by
  obtain ⟨-, ⟨c0, c1, c2⟩, -⟩ := HB.out Y hY
  have hb3 : Below W.heap.size Y (((Y.setCell ⟨W.heap.size + 1, 0, none⟩ a).setCell ⟨W.heap.size + 1, 1, none⟩ b).setCell ⟨W.heap.size + 1, 2, none⟩ c) := (((Below.refl _ Y).setCell (p := ⟨W.heap.size + 1, 0, none⟩) (by show W.heap.size ≤ W.heap.size + 1; omega) _).setCell (p := ⟨W.heap.size + 1, 1, none⟩) (by show W.heap.size ≤ W.heap.size + 1; omega) _).setCell (p := ⟨W.heap.size + 1, 2, none⟩) (by show W.heap.size ≤ W.heap.size + 1; omega) _
  have k0 : (((Y.setCell ⟨W.heap.size + 1, 0, none⟩ a).setCell ⟨W.heap.size + 1, 1, none⟩ b).setCell ⟨W.heap.size + 1, 2, none⟩ c).cell? ⟨W.heap.size + 1, 0, none⟩ = some a := other (other (same_of c0) (ao (by decide))) (ao (by decide))
  have k1 : (((Y.setCell ⟨W.heap.size + 1, 0, none⟩ a).setCell ⟨W.heap.size + 1, 1, none⟩ b).setCell ⟨W.heap.size + 1, 2, none⟩ c).cell? ⟨W.heap.size + 1, 1, none⟩ = some b := other (same_of (other c1 (ao (by decide)))) (ao (by decide))
  have k2 : (((Y.setCell ⟨W.heap.size + 1, 0, none⟩ a).setCell ⟨W.heap.size + 1, 1, none⟩ b).setCell ⟨W.heap.size + 1, 2, none⟩ c).cell? ⟨W.heap.size + 1, 2, none⟩ = some c := same_of (other (other c2 (ao (by decide))) (ao (by decide)))
  exact And.intro k0 (And.intro k1 (And.intro k2 (show Ext W _ from Below.trans (HX0.out.trans hY) hb3))))
 have HKEEP := hid (fun (Y : World) (S : Nat → Prop) (a b c : Value) (hS : ∀ k, S k → k ≠ W.heap.size + 1) => show Kept S Y (((Y.setCell ⟨W.heap.size + 1, 0, none⟩ a).setCell ⟨W.heap.size + 1, 1, none⟩ b).setCell ⟨W.heap.size + 1, 2, none⟩ c) from ((Kept.setCell (fun h => hS _ h rfl) _).trans (Kept.setCell (fun h => hS _ h rfl) _)).trans (Kept.setCell (fun h => hS _ h rfl) _))
 have HZ0 : Hid (W.heap.size + 1 < w0.heap.size) := hid (by rw [hw0]; simp only [size_alloc]; omega)
 clear hp hq ha hnt hnq hna hw0 hsm CM hok
 by_cases hbad : mayT ts = false
 ·have HSD : Hid (sideP x ts = (2, ⟨ByteArray.empty, [], []⟩)) := hid (by unfold sideP; rw [if_pos (.inl hbad)])
  rw [hbad] at CM0
  clear hbad
  go_enter Tryz.func9, Tryz.ntmps9
  go_wp2_with fail
  with_reducible refine CM0.out.mono ?_
  rintro e w1 ⟨rfl, hx1⟩
  rw [← HW0.out] at hx1
  have HX1 := hid hx1
  obtain ⟨-, ⟨c0, c1, c2⟩, f0, f1, f2⟩ := HB.out _ hx1
  clear hx1
  go_wp2
  all_goals
   rw [HSD.out]
   obtain ⟨k0, k1, k2, hf⟩ := HSET.out w1 (.string { data := #[] }) (.slice none 0 0) (.slice none 0 0) HX1.out
   refine bodyPost_ret (v := .tuple #[.agg #[.string { data := #[] }, .slice none 0 0, .slice none 0 0], .int .i64 2]) (by simp [results, Tryz.results9, go_sem, k0, k1, k2]) rfl ?_
   exact ⟨_, rfl, ⟨_, _, rfl, ⟨0, 0, ⟨none, 0, rfl, Nat.le_refl _, Nat.zero_le _, fun h => absurd h (by simp), fun h => absurd h (by simp)⟩, fun j x hj => by simp at hj⟩, Terms.nilv _ _ _ _ (by decide)⟩, hf⟩
 ·have hm : mayT ts = true := by simpa using hbad
  rw [hm] at CM0
  by_cases h0 : ts = []
  ·have HSD : Hid (sideP x ts = (2, ⟨ByteArray.empty, [], []⟩)) := hid (by unfold sideP; rw [if_pos (.inr h0)])
   have hb : ((nt : Int) == 0) = true := by rw [HNT.out, h0]; rfl
   clear hbad hm h0
   go_enter Tryz.func9, Tryz.ntmps9
   go_wp2_with fail
   with_reducible refine CM0.out.mono ?_
   rintro e w1 ⟨rfl, hx1⟩
   rw [← HW0.out] at hx1
   have HX1 := hid hx1
   obtain ⟨-, ⟨c0, c1, c2⟩, f0, f1, f2⟩ := HB.out _ hx1
   clear hx1
   go_wp2
   all_goals
    rw [HSD.out]
    obtain ⟨k0, k1, k2, hf⟩ := HSET.out w1 (.string { data := #[] }) (.slice none 0 0) (.slice none 0 0) HX1.out
    refine bodyPost_ret (v := .tuple #[.agg #[.string { data := #[] }, .slice none 0 0, .slice none 0 0], .int .i64 2]) (by simp [results, Tryz.results9, go_sem, k0, k1, k2]) rfl ?_
    exact ⟨_, rfl, ⟨_, _, rfl, ⟨0, 0, ⟨none, 0, rfl, Nat.le_refl _, Nat.zero_le _, fun h => absurd h (by simp), fun h => absurd h (by simp)⟩, fun j x hj => by simp at hj⟩, Terms.nilv _ _ _ _ (by decide)⟩, hf⟩
  ·have HSD : Hid (sideP x ts = (0, toldP x (wholeP (plainP ts)))) := hid (by unfold sideP; rw [if_neg (by rintro (h | h); exact hbad h; exact h0 h)])
   have hb : ((nt : Int) == 0) = false := by rw [beq_eq_false_iff_ne, HNT.out]; have := List.length_pos_iff.2 h0; omega
   have hpl2 := pv_of HP.out hm
   have hfp : Fit k n (plainP ts) := fit_plain HP.out.okT hlk hln
   have CW := hid (fun (Y : World) (hY : Ext W Y) => poly_whole (W := Y) (p := plainP ts) (by rw [← hpl2]; exact HP.out.on hY) hfp hk hn)
   have CT := hid (fun (Y : World) (u : Value) (hY : Ext W Y) (hu : Terms (Old Y) Y u (ofP (wholeP (plainP ts)))) => side_told (HXL.out.on hY) HOK.out hu hfp.whole hk hn hpl hal)
   clear hbad hm h0 hpl2 hfp
   go_enter Tryz.func9, Tryz.ntmps9
   go_wp2_with fail
   with_reducible refine CM0.out.mono ?_
   rintro e w1 ⟨rfl, hx1⟩
   rw [← HW0.out] at hx1
   have HX1 := hid hx1
   clear hx1
   go_wp2_with fail
   with_reducible refine (CW.out w1 (HX0.out.trans HX1.out)).mono ?_
   rintro e w2 ⟨v2, rfl, hp2, hx2⟩
   have HX2 := hid (HX1.out.trans hx2)
   have HX2' := hid hx2
   have HP2 := hid hp2
   obtain ⟨⟨d0, d1, d2, d3⟩, -⟩ := HB.out _ HX2.out
   have CT2 := hid (CT.out w2 v2 (HX0.out.trans HX2.out) (hp2.to (Kept.refl _ _) New.lt))
   obtain ⟨a2, c2, rfl⟩ := hp2.form
   clear hx2 hp2
   go_wp2_with fail
   with_reducible refine CT2.out.mono ?_
   rintro e w3 ⟨vn, rfl, hs3, hx3⟩
   have HX3 := hid (HX2.out.trans hx3)
   have HX3' := hid hx3
   have HS3 := hid hs3
   obtain ⟨T, hT⟩ : ∃ T, T = toldP x (wholeP (plainP ts)) := ⟨_, rfl⟩
   have HTP : Hid (T.poly = ofP (wholeP (plainP ts))) := hid (by rw [hT]; exact told_poly _ _)
   rw [← hT] at HS3 HSD ⊢
   obtain ⟨-, ⟨c0, c1, c4⟩, f0, f1, f2⟩ := HB.out _ HX3.out
   obtain ⟨an, cn, hvn⟩ := HS3.out.form
   subst hvn
   clear hx3 hs3 hT d0 d1 d2 d3
   go_wp2
   all_goals
    rw [HSD.out]
    obtain ⟨nw, hnw⟩ : ∃ n, n = (ofP (wholeP (plainP ts))).length := ⟨_, rfl⟩
    obtain ⟨k0, k1, k2, hf⟩ := HSET.out w3 (.string T.word) (.slice an T.pts.length cn) (.slice a2 (ofP (wholeP (plainP ts))).length c2) HX3.out
    have HK := HKEEP.out w3 (fun k => w0.heap.size ≤ k ∧ k < w3.heap.size) (.string T.word) (.slice an T.pts.length cn) (.slice a2 (ofP (wholeP (plainP ts))).length c2) (fun k hk => by have h1 := hk.1; have h2 := HZ0.out; omega)
    refine bodyPost_ret (v := .tuple #[.agg #[.string T.word, .slice an T.pts.length cn, .slice a2 (ofP (wholeP (plainP ts))).length c2], .int .i64 0]) (by simp [results, Tryz.results9, go_sem, k0, k1, k2]) rfl ?_
    have hsz : ∀ k, (fun k => w0.heap.size ≤ k ∧ k < w3.heap.size) k → New W (((w3.setCell ⟨W.heap.size + 1, 0, none⟩ (.string T.word)).setCell ⟨W.heap.size + 1, 1, none⟩ (.slice an T.pts.length cn)).setCell ⟨W.heap.size + 1, 2, none⟩ (.slice a2 (ofP (wholeP (plainP ts))).length c2)) k := fun k hk => ⟨Nat.le_trans HX0.out.size hk.1, by simp only [size_setCell]; exact hk.2⟩
    exact ⟨_, rfl, ⟨_, _, rfl, (HS3.out.to (S' := fun k => w0.heap.size ≤ k ∧ k < w3.heap.size) (Kept.refl _ _) (fun k hk => ⟨Nat.le_trans HX2.out.size hk.1, hk.2⟩)).to HK hsz, by rw [HTP.out]; exact (HP2.out.to (S' := fun k => w0.heap.size ≤ k ∧ k < w3.heap.size) (Kept.ext HX3'.out New.lt) (fun k hk => ⟨Nat.le_trans HX1.out.size hk.1, Nat.lt_of_lt_of_le hk.2 HX3'.out.size⟩)).to HK hsz⟩, hf⟩
end
section
open Go.RowKit
theorem rpoly_smallZ (n : Int) (w : World) (hn : -100000000000000 ≤ n ∧ n ≤ 100000000000000) :
  Calls Tryz.prog 19 #[.int .i64 n] w fun e w' => ∃ v', e = .returned v' ∧ RTs (New w w') w' v' (oneZ n []) ∧ Ext w w' := by
 by_cases h0 : 0 ≤ n
 ·obtain ⟨k, rfl⟩ : ∃ k : Nat, n = (k : Int) := ⟨n.toNat, by omega⟩
  exact rpoly_small k w (by omega)
 ·obtain ⟨k, rfl⟩ : ∃ k : Nat, n = -((k : Int) + 1) := ⟨(-n - 1).toNat, by omega⟩
  have C1 := hid (zed_small_neg k w (by omega))
  have HZ : Hid (szZ (-((k : Int) + 1))) := hid (by
   have h := szZ_i64 (n := k + 1) (by omega)
   unfold szZ at h ⊢
   rw [Int.natAbs_neg]
   exact h)
  obtain ⟨m, hm⟩ : ∃ m : Int, m = -((k : Int) + 1) := ⟨_, rfl⟩
  rw [← hm] at C1 HZ ⊢
  clear hn h0 hm
  go_enter Tryz.func19, Tryz.ntmps19
  go_wp2_with fail
  refine C1.out.mono ?_
  rintro e w1 ⟨v1, rfl, hz1, hx1⟩
  have HX1 := hid hx1
  have C2 := hid (rpoly_put (S := New w w1) (.slice none 0 0) v1 (.slice none 0 0) [] m [] w1 (fun _ h => h.2) (RTs.nilv _ _ _ _ (by omega)) hz1 (Pows.empty _ _ _) canP_nil.may rfl ⟨by simp, fun t ht => by simp at ht⟩ HZ.out)
  clear hx1 hz1
  go_wp2_with fail
  refine C2.out.mono ?_
  rintro e w2 ⟨v2, rfl, hp2, hx2⟩
  have HX2 := hid (HX1.out.trans hx2)
  have HP2 : Hid (RTs (New w w2) w2 v2 (oneZ m [])) := hid (hp2.to (Kept.refl _ _) (fun k hk => by
   rcases hk with h | h
   ·exact ⟨h.1, Nat.lt_of_lt_of_le h.2 hx2.size⟩
   ·exact ⟨Nat.le_trans HX1.out.size h.1, h.2⟩))
  clear hp2 hx2
  go_wp2
  all_goals
   go_ret
   exact ⟨_, rfl, HP2.out, HX2.out⟩
def nA : ByteArray := { data := #[65] }
def nB : ByteArray := { data := #[66] }
def nC : ByteArray := { data := #[67] }
def lay3 : Lay := ⟨[nA, nB, nC], [(1, 2), (3, 4), (5, 6)], 6, 6⟩
def k28p : PZ := condP wUnlike [(1, 2), (3, 4)]
def k28q : PZ := condP wApart [(3, 4), (1, 2), (5, 6)]
def k28b : PZ := subP (varP 1) (varP 3)
def k28c : PZ := timesV (timesP (oneZ (-3) []) k28q)
theorem k28_p : condX lay3 wUnlike [nA, nB] = (0, k28p) := by kernel_rfl
theorem k28_q : condX lay3 wApart [nB, nA, nC] = (0, k28q) := by kernel_rfl
theorem k28_a : toldP lay3 (wholeP k28p) = ⟨wUnlike, [nA, nB], ofP (wholeP k28p)⟩ := by kernel_rfl
theorem k28_bb : (toldP lay3 (wholeP k28b)).word = ByteArray.empty := by kernel_rfl
theorem k28_cc : toldP lay3 (wholeP k28c) = ⟨wApart, [nA, nB, nC], ofP (wholeP k28c)⟩ := by kernel_rfl
end
section
open Go.RowKit
theorem law28_three (W : World) : Calls Tryz.prog 6 #[] W fun e w' => ∃ v', e = .returned v' ∧ LayV (New W w') w' v' lay3 ∧ Ext W w' := by
 go_enter Tryz.func6, Tryz.ntmps6
 go_wp2
 obtain ⟨w0, hw0⟩ : ∃ Y, Y = ((W.alloc (.cells #[.slice (some ⟨W.heap.size + 1, 0, none⟩) 3 3, .slice (some ⟨W.heap.size + 1 + 1, 0, none⟩) 3 3, .int .i64 6, .int .i64 6] 35)).alloc (.cells #[.string { data := #[65] }, .string { data := #[66] }, .string { data := #[67] }] 9)).alloc (.cells #[.int .i64 1, .int .i64 2, .int .i64 3, .int .i64 4, .int .i64 5, .int .i64 6] 87) := ⟨_, rfl⟩
 have k0 : ∀ (i : Nat) (u : Value), #[Value.slice (some ⟨W.heap.size + 1, 0, none⟩) 3 3, .slice (some ⟨W.heap.size + 1 + 1, 0, none⟩) 3 3, .int .i64 6, .int .i64 6][i]? = some u → w0.cell? ⟨W.heap.size, i, none⟩ = some u := fun i u hu => by rw [hw0]; exact cell_old _ (cell_old _ (cell_new W _ _ rfl hu))
 have k1 : ∀ (i : Nat) (u : Value), #[Value.string { data := #[65] }, .string { data := #[66] }, .string { data := #[67] }][i]? = some u → w0.cell? ⟨W.heap.size + 1, i, none⟩ = some u := fun i u hu => by rw [hw0]; exact cell_old _ (cell_new _ _ _ (by rw [size_alloc]) hu)
 have k2 : ∀ (i : Nat) (u : Value), #[Value.int .i64 1, .int .i64 2, .int .i64 3, .int .i64 4, .int .i64 5, .int .i64 6][i]? = some u → w0.cell? ⟨W.heap.size + 1 + 1, i, none⟩ = some u := fun i u hu => by rw [hw0]; exact cell_new _ _ _ (by rw [size_alloc, size_alloc]) hu
 have hsz : w0.heap.size = W.heap.size + 3 := by rw [hw0]; simp only [size_alloc]
 have hx : Ext W w0 := by rw [hw0]; exact ((Ext.alloc (Ext.refl _) _).alloc _).alloc _
 rw [← hw0]
 have c0 := k0 0 _ rfl
 have c1 := k0 1 _ rfl
 have c2 := k0 2 _ rfl
 have c3 := k0 3 _ rfl
 refine bodyPost_ret (v := .agg #[.slice (some ⟨W.heap.size + 1, 0, none⟩) 3 3, .slice (some ⟨W.heap.size + 1 + 1, 0, none⟩) 3 3, .int .i64 6, .int .i64 6]) (by simp [results, Tryz.results6, go_sem, c0, c1, c2, c3]) rfl ?_
 refine ⟨_, rfl, ⟨_, _, rfl, ⟨W.heap.size + 1, 0, ⟨_, 3, rfl, Nat.le_refl _, by decide, fun _ => rfl, fun _ => ⟨by omega, by omega⟩⟩, fun j s hj => ?_⟩, ⟨W.heap.size + 1 + 1, 0, ⟨_, 3, rfl, Nat.le_refl _, by decide, fun _ => rfl, fun _ => ⟨by omega, by omega⟩⟩, fun j c hj => ?_⟩⟩, hx⟩
 ·match j, hj with
  | 0, hj => obtain rfl : nA = s := by simpa [lay3] using hj
             exact k1 0 _ rfl
  | 1, hj => obtain rfl : nB = s := by simpa [lay3] using hj
             exact k1 1 _ rfl
  | 2, hj => obtain rfl : nC = s := by simpa [lay3] using hj
             exact k1 2 _ rfl
  | j + 3, hj => simp [lay3] at hj
 ·match j, hj with
  | 0, hj => obtain rfl : ((1 : Int), (2 : Int)) = c := by simpa [lay3] using hj
             exact ⟨by decide, k2 0 _ rfl, k2 1 _ rfl⟩
  | 1, hj => obtain rfl : ((3 : Int), (4 : Int)) = c := by simpa [lay3] using hj
             exact ⟨by decide, k2 2 _ rfl, k2 3 _ rfl⟩
  | 2, hj => obtain rfl : ((5 : Int), (6 : Int)) = c := by simpa [lay3] using hj
             exact ⟨by decide, k2 4 _ rfl, k2 5 _ rfl⟩
  | j + 3, hj => simp [lay3] at hj
def badC (c : Int × Int) : Bool := decide (c.1 < 1) || decide (200 < c.1) || decide (c.2 < 1) || decide (200 < c.2)
def great28 (x : Lay) (ts : List RTerm) : Bool := decide (60 < x.pts.length) || decide (60 < x.ats.length) || greatT 40 ts || x.ats.any badC
theorem great28_no {x : Lay} {ts : List RTerm} (h : great28 x ts = false) : x.pts.length ≤ 60 ∧ x.ats.length ≤ 60 ∧ greatT 40 ts = false ∧ ∀ c ∈ x.ats, Ok2 c := by
 unfold great28 at h
 simp only [Bool.or_eq_false_iff, decide_eq_false_iff_not] at h
 obtain ⟨⟨⟨h1, h2⟩, h3⟩, h4⟩ := h
 refine ⟨by omega, by omega, h3, fun c hc => ?_⟩
 have h5 := (List.any_eq_false.1 h4) c hc
 unfold badC at h5
 simp only [Bool.not_eq_true, Bool.or_eq_false_iff, decide_eq_false_iff_not] at h5
 unfold Ok2
 omega
theorem law28_great {W : World} {v vp : Value} {x : Lay} {ts : List RTerm} (hx : LayV (Old W) W v x) (hp : Terms (Old W) W vp ts) :
  Calls Tryz.prog 7 #[v, vp] W fun e w' => e = .returned (.bool (great28 x ts)) ∧ Ext W w' := by
 have CG := hid (fun (Y : World) (hY : Ext W Y) => rpoly_great (S := Old Y) vp ts 40 Y (hp.on hY) (fun _ h => h) (by decide))
 obtain ⟨vq, va, rfl, hq, ha⟩ := hx
 have HA := hid ha
 have hlp := hq.len_le
 have hla := ha.len_le
 obtain ⟨ap, cp, rfl⟩ := hq.form
 obtain ⟨aa, ca, rfl⟩ := ha.form
 obtain ⟨at_, ct, rfl⟩ := hp.form
 obtain ⟨nt, hnt⟩ : ∃ n, n = ts.length := ⟨_, rfl⟩
 obtain ⟨np, hnp⟩ : ∃ n, n = x.pts.length := ⟨_, rfl⟩
 obtain ⟨na, hna⟩ : ∃ n, n = x.ats.length := ⟨_, rfl⟩
 rw [← hnt] at CG ⊢
 rw [← hnp] at hlp ⊢
 rw [← hna] at HA hla ⊢
 have HNP := hid hnp
 have HNA := hid hna
 have HX0 := hid (Ext.alloc (Ext.refl W) (.cells #[.slice ap np cp, .slice aa na ca, .int .i64 x.par, .int .i64 x.vrs] 35))
 have HB := hid (fun (Y : World) (hY : Ext (W.alloc (.cells #[.slice ap np cp, .slice aa na ca, .int .i64 x.par, .int .i64 x.vrs] 35)) Y) => blk_new4 W (.slice ap np cp) (.slice aa na ca) (.int .i64 x.par) (.int .i64 x.vrs) 35 hY)
 have CG0 := hid (CG.out _ HX0.out)
 obtain ⟨t, ht⟩ : ∃ t, t = greatT 40 ts := ⟨_, rfl⟩
 rw [← ht] at CG0
 have HT := hid ht
 clear hq ha hp hnt hnp hna ht
 by_cases h1 : 60 < np
 ·have HE : Hid (great28 x ts = true) := hid (by unfold great28; rw [← HNP.out, decide_eq_true h1]; rfl)
  have q1 : decide (60 < (np : Int)) = true := decide_eq_true (by omega)
  go_enter Tryz.func7, Tryz.ntmps7
  go_wp2
  all_goals
   go_ret
   exact ⟨by rw [HE.out]; rfl, HX0.out⟩
 ·by_cases h2 : 60 < na
  ·have HE : Hid (great28 x ts = true) := hid (by unfold great28; rw [← HNP.out, ← HNA.out, decide_eq_true h2]; simp)
   have q1 : decide (60 < (np : Int)) = false := decide_eq_false (by omega)
   have q2 : decide (60 < (na : Int)) = true := decide_eq_true (by omega)
   go_enter Tryz.func7, Tryz.ntmps7
   go_wp2
   all_goals
    go_ret
    exact ⟨by rw [HE.out]; rfl, HX0.out⟩
  ·have q1 : decide (60 < (np : Int)) = false := decide_eq_false (by omega)
   have q2 : decide (60 < (na : Int)) = false := decide_eq_false (by omega)
   cases t with
   | true =>
    have HE : Hid (great28 x ts = true) := hid (by unfold great28; rw [← HT.out]; simp)
    go_enter Tryz.func7, Tryz.ntmps7
    go_wp2_with fail
    with_reducible refine CG0.out.mono ?_
    rintro e w1 ⟨rfl, hx1⟩
    have HX1 := hid (HX0.out.trans hx1)
    clear hx1
    go_wp2
    all_goals
     go_ret
     exact ⟨by rw [HE.out]; rfl, HX1.out⟩
   | false =>
    have HE0 : Hid (great28 x ts = x.ats.any badC) := hid (by unfold great28; rw [← HNP.out, ← HNA.out, ← HT.out, decide_eq_false h1, decide_eq_false h2]; rfl)
    go_enter Tryz.func7, Tryz.ntmps7
    go_wp2_with fail
    with_reducible refine CG0.out.mono ?_
    rintro e w1 ⟨rfl, hx1⟩
    have HX1 := hid hx1
    obtain ⟨c0, c1⟩ := HB.out _ hx1
    clear hx1
    go_wp2
    go_loopw [24] (fun i wr => ∃ k : Nat, k ≤ na ∧ i = .int .i64 k ∧ Ext w1 wr ∧ Hid ((x.ats.take k).any badC = false)) (fun i _ => na - (intOf i).toNat)
    case atStart => exact ⟨0, Nat.zero_le _, rfl, Ext.refl _, rfl⟩
    case round =>
     obtain ⟨k, hk, rfl, hxr, HA0⟩ := hrel
     have HX := hid hxr
     have HXW := hid (HX0.out.trans (HX1.out.trans hxr))
     by_cases hlt : k < na
     ·obtain ⟨c, hc⟩ := some_of_lt (l := x.ats) (j := k) (by rw [← HNA.out]; exact hlt)
      obtain ⟨b2, o2, rfl, -, hq4, hq5, -, ⟨hz1, hz2⟩, z0, z1⟩ := (HA.out.on HXW.out).cellAt hc
      have HTK : Hid (x.ats.take (k + 1) = x.ats.take k ++ [c]) := hid (by rw [List.take_add_one, hc]; rfl)
      have HMC := hid (List.mem_of_getElem? hc)
      obtain ⟨u, z⟩ := c
      simp only at z0 z1 hz1 hz2
      clear hc hxr
      by_cases hb : badC (u, z) = true
      ·have HE : Hid (great28 x ts = true) := hid (by rw [HE0.out, List.any_eq_true.2 ⟨_, HMC.out, hb⟩])
       unfold badC at hb
       simp only at hb
       by_cases e1 : u < 1
       ·have p1 : decide (u < 1) = true := decide_eq_true e1
        clear hb
        go_wp2
        all_goals
         go_ret
         exact ⟨by rw [HE.out]; rfl, HXW.out.alloc _⟩
       ·have p1 : decide (u < 1) = false := decide_eq_false e1
        by_cases e2 : 200 < u
        ·have p2 : decide (200 < u) = true := decide_eq_true e2
         clear hb
         go_wp2
         all_goals
          go_ret
          exact ⟨by rw [HE.out]; rfl, HXW.out.alloc _⟩
        ·have p2 : decide (200 < u) = false := decide_eq_false e2
         by_cases e3 : z < 1
         ·have p3 : decide (z < 1) = true := decide_eq_true e3
          clear hb
          go_wp2
          all_goals
           go_ret
           exact ⟨by rw [HE.out]; rfl, HXW.out.alloc _⟩
         ·have p3 : decide (z < 1) = false := decide_eq_false e3
          have e4 : 200 < z := by rw [p1, p2, p3] at hb; simpa using hb
          have p4 : decide (200 < z) = true := decide_eq_true e4
          clear hb
          go_wp2
          all_goals
           go_ret
           exact ⟨by rw [HE.out]; rfl, HXW.out.alloc _⟩
      ·have hb2 : badC (u, z) = false := by simpa using hb
       have HBD := hid hb2
       unfold badC at hb2
       simp only [Bool.or_eq_false_iff] at hb2
       obtain ⟨⟨⟨p1, p2⟩, p3⟩, p4⟩ := hb2
       clear hb
       go_wp2
       go_roundw
       case rel => exact ⟨k + 1, by omega, by go_num, HX.out.alloc _, hid (by rw [HTK.out, List.any_append, HA0.out, List.any_cons, HBD.out]; rfl)⟩
       case measure => simp only [intOf]; omega
     ·obtain rfl : na = k := by omega
      have HE : Hid (great28 x ts = false) := hid (by rw [HE0.out]; have h := HA0.out; rwa [List.take_of_length_le (by rw [← HNA.out]; exact Nat.le_refl _)] at h)
      go_wp2
      all_goals
       go_ret
       exact ⟨by rw [HE.out]; rfl, HXW.out⟩
end
section
open Go.RowKit
abbrev z3 : Array Value := #[.string { data := #[] }, .slice none 0 0, .slice none 0 0]
structure SBx (wb : World) (b : Nat) (Y : World) : Prop where
 c0 : Y.cell? ⟨b, 0, none⟩ = some (.string { data := #[] })
 c1 : Y.cell? ⟨b, 1, none⟩ = some (.slice none 0 0)
 c2 : Y.cell? ⟨b, 2, none⟩ = some (.slice none 0 0)
 f0 : Y.frozen? ⟨b, 0, none⟩ = false
 f1 : Y.frozen? ⟨b, 1, none⟩ = false
 f2 : Y.frozen? ⟨b, 2, none⟩ = false
 lo : wb.heap.size ≤ b
theorem SBx.ext {wb : World} {b : Nat} {Y Z : World} (h : SBx wb b Y) (hx : Ext Y Z) : SBx wb b Z :=
 ⟨hx.cell h.c0, hx.cell h.c1, hx.cell h.c2, hx.free (lt_of_cell h.c0) h.f0, hx.free (lt_of_cell h.c0) h.f1, hx.free (lt_of_cell h.c0) h.f2, h.lo⟩
theorem sbx_self {wb Y : World} (hw : Ext wb Y) (T : TypeId) : SBx wb Y.heap.size (Y.alloc (.cells #[.string { data := #[] }, .slice none 0 0, .slice none 0 0] T)) :=
 ⟨cell_new Y _ _ rfl rfl, cell_new Y _ _ rfl rfl, cell_new Y _ _ rfl rfl, free_new _ _ _, free_new _ _ _, free_new _ _ _, hw.size⟩
theorem sbx_new {wb Y Z : World} {T : TypeId} (hw : Ext wb Y) (h : Ext (Y.alloc (.cells #[.string { data := #[] }, .slice none 0 0, .slice none 0 0] T)) Z) : SBx wb Y.heap.size Z := (sbx_self hw T).ext h
theorem sbx_drew {wb Z : World} {T : TypeId} (h : Ext ((wb.alloc (.cells #[.string { data := #[] }, .slice none 0 0, .slice none 0 0] T)).drew) Z) : SBx wb wb.heap.size Z := (sbx_self (Ext.refl wb) T).ext ((Ext.drew (Ext.refl _)).trans h)
def SV (wb : World) (b : Nat) (Y : World) (s : SideD) (vn vp : Value) : Prop := Ext wb Y ∧ wb.heap.size ≤ b ∧ (Y.cell? ⟨b, 0, none⟩ = some (.string s.word) ∧ Y.cell? ⟨b, 1, none⟩ = some vn ∧ Y.cell? ⟨b, 2, none⟩ = some vp) ∧ Strs (Old Y) Y vn s.pts ∧ Terms (Old Y) Y vp s.poly
theorem SV.ext {wb : World} {b : Nat} {Y Z : World} {s : SideD} {vn vp : Value} (h : SV wb b Y s vn vp) (hx : Ext Y Z) : SV wb b Z s vn vp :=
 ⟨h.1.trans hx, h.2.1, ⟨hx.cell h.2.2.1.1, hx.cell h.2.2.1.2.1, hx.cell h.2.2.1.2.2⟩, h.2.2.2.1.to (Kept.ext hx (fun _ h => h)) (old_lt hx), h.2.2.2.2.on hx⟩
theorem SV.side {wb : World} {b : Nat} {Y : World} {s : SideD} {vn vp : Value} (h : SV wb b Y s vn vp) : SideV (Old Y) Y (.agg #[.string s.word, vn, vp]) s := ⟨_, _, rfl, h.2.2.2.1, h.2.2.2.2⟩
theorem ext_set3 {wb Y : World} {b : Nat} (h : Ext wb Y) (hb : wb.heap.size ≤ b) (x y z : Value) : Ext wb (((Y.setCell ⟨b, 0, none⟩ x).setCell ⟨b, 1, none⟩ y).setCell ⟨b, 2, none⟩ z) := ((h.setCell (p := ⟨b, 0, none⟩) hb _).setCell (p := ⟨b, 1, none⟩) hb _).setCell (p := ⟨b, 2, none⟩) hb _
theorem SV.fresh {wb Y : World} {s : SideD} {vn vp : Value} (hx : Ext wb Y) (h1 : Strs (Old Y) Y vn s.pts) (h2 : Terms (Old Y) Y vp s.poly) (T : TypeId) : SV wb Y.heap.size (Y.alloc (.cells #[.string s.word, vn, vp] T)) s vn vp := by
 have hy : Ext Y (Y.alloc (.cells #[.string s.word, vn, vp] T)) := Ext.alloc (Ext.refl _) _
 exact ⟨hx.trans hy, hx.size, ⟨cell_new Y _ _ rfl rfl, cell_new Y _ _ rfl rfl, cell_new Y _ _ rfl rfl⟩, h1.to (Kept.ext hy (fun _ h => h)) (old_lt hy), h2.on hy⟩
theorem SV.put {wb Y : World} {b : Nat} {s : SideD} {vn vp : Value} (hb : SBx wb b Y) (hx : Ext wb Y) (h1 : Strs (fun k => k < Y.heap.size ∧ k ≠ b) Y vn s.pts) (h2 : Terms (fun k => k < Y.heap.size ∧ k ≠ b) Y vp s.poly) : SV wb b (((Y.setCell ⟨b, 0, none⟩ (.string s.word)).setCell ⟨b, 1, none⟩ vn).setCell ⟨b, 2, none⟩ vp) s vn vp := by
 have hk : Kept (fun k => k < Y.heap.size ∧ k ≠ b) Y (((Y.setCell ⟨b, 0, none⟩ (.string s.word)).setCell ⟨b, 1, none⟩ vn).setCell ⟨b, 2, none⟩ vp) := ((Kept.setCell (fun h => h.2 rfl) _).trans (Kept.setCell (fun h => h.2 rfl) _)).trans (Kept.setCell (fun h => h.2 rfl) _)
 have hs : ∀ k, (k < Y.heap.size ∧ k ≠ b) → Old (((Y.setCell ⟨b, 0, none⟩ (.string s.word)).setCell ⟨b, 1, none⟩ vn).setCell ⟨b, 2, none⟩ vp) k := fun k hk => by
  unfold Old
  simp only [size_setCell]; exact hk.1
 exact ⟨ext_set3 hx hb.lo _ _ _, hb.lo, ⟨other (other (same_of hb.c0) (ao (by decide))) (ao (by decide)), other (same_of (other hb.c1 (ao (by decide)))) (ao (by decide)), same_of (other (other hb.c2 (ao (by decide))) (ao (by decide)))⟩, h1.to hk hs, h2.to hk hs⟩
theorem sideP_of {x : Lay} {p : PZ} {k n : Nat} (fp : Fit k n p) (h0 : p ≠ []) : sideP x (ofP p) = (0, toldP x (wholeP p)) := by
 unfold sideP
 rw [fp.plain, if_neg]
 rintro (h | h)
 ·rw [fp.may] at h; cases h
 ·exact h0 (List.length_eq_zero_iff.1 (by rw [← ofP_len, h]; rfl))
theorem side_ofP {W : World} {v vp : Value} {x : Lay} {p : PZ} {k n : Nat} (hx : LayV (Old W) W v x) (hok : ∀ c ∈ x.ats, Ok2 c) (hp : PV W vp p) (fp : Fit k n p) (h0 : p ≠ []) (hk : k ≤ 1000000) (hn : n ≤ 1000000000000) (hpl : x.pts.length ≤ 1000) (hal : x.ats.length ≤ 1000) :
  Calls Tryz.prog 9 #[v, vp] W fun e w' => ∃ v', e = .returned (.tuple #[v', .int .i64 0]) ∧ SideV (New W w') w' v' (toldP x (wholeP p)) ∧ Ext W w' := by
 have h := side_of (k := k) (n := n) hx hok hp fp.lens hk fp.len hn hpl hal
 rw [sideP_of fp h0] at h
 exact h
theorem rz_ofP {W : World} {u : Value} {p : PZ} {k n : Nat} (hp : PV W u p) (fp : Fit k n p) (hk : k ≤ 90000) (hn : n ≤ 1000000000000) :
  Calls Tryz.prog 12 #[u] W fun e w' => ∃ v', e = .returned v' ∧ RV w' v' p ∧ Ext W w' :=
 (rpoly_of (S := Old W) u (ofP p) W hp (fun _ h => h) (fun t ht => Nat.le_trans (fp.lens t ht) (by omega)) (by rw [toP_ofP]; exact fp.can.may) (fun j _ => by rw [toP_ofP, addP_take fp.can]; exact szP_take (fit_szP fp (by omega) hn) j)).mono (by
  rintro e w' ⟨v', rfl, h, hx⟩
  rw [toP_ofP, normP_of_can fp.can] at h
  exact ⟨v', rfl, h.to (Kept.refl _ _) (plus_old hx), hx⟩)
theorem rz_smallZ (W : World) {n : Int} (hn : -100000000000000 ≤ n ∧ n ≤ 100000000000000) :
  Calls Tryz.prog 19 #[.int .i64 n] W fun e w' => ∃ v', e = .returned v' ∧ RV w' v' (oneZ n []) ∧ Ext W w' :=
 (rpoly_smallZ n W hn).mono (by
  rintro e w' ⟨v', rfl, h, hx⟩
  exact ⟨v', rfl, h.to (Kept.refl _ _) New.lt, hx⟩)
theorem rz_mulV {W : World} {u v : Value} {p q c : PZ} {k l n m : Nat} (hp : RV W u p) (hq : RV W v q) (fp : Fit k n p) (fq : Fit l m q) (hk : k + l ≤ 90000) (hn : n ≤ 1000000000000) (hm : m ≤ 1000000000000) (hnm : n * m ≤ 1000000000000) (hc : timesP p q = some c) :
  Calls Tryz.prog 18 #[u, v] W fun e w' => ∃ v', e = .returned v' ∧ RV w' v' c ∧ Ext W w' :=
 (rpoly_mul (S := Old W) u v p q W (fun _ h => h) hp hq fp.can.may fq.can.may (fit_szP fp (by omega) hn) (fit_szP fq (by omega) hm) (fit_szM2 fp fq (by omega) hnm)).mono (by
  rintro e w' ⟨v', rfl, h, hx⟩
  rw [hc] at h
  exact ⟨v', rfl, h.to (Kept.refl _ _) (plus_old hx), hx⟩)
end
section
open Go.RowKit
theorem strs_lit2 {w : World} {a b : ByteArray} (T : TypeId) : Strs (Old (w.alloc (.cells #[.string a, .string b] T))) (w.alloc (.cells #[.string a, .string b] T)) (.slice (some ⟨w.heap.size, 0, none⟩) 2 2) [a, b] := by
 refine ⟨w.heap.size, 0, ⟨_, 2, rfl, Nat.le_refl _, by decide, fun _ => rfl, fun _ => by show w.heap.size < (w.alloc _).heap.size; rw [size_alloc]; omega⟩, fun j s hj => ?_⟩
 match j, hj with
 | 0, hj =>
  obtain rfl : a = s := by simpa using hj
  exact cell_new _ _ _ rfl rfl
 | 1, hj =>
  obtain rfl : b = s := by simpa using hj
  exact cell_new _ _ _ rfl rfl
 | j + 2, hj => simp at hj
theorem strs_lit3 {w : World} {a b c : ByteArray} (T : TypeId) : Strs (Old (w.alloc (.cells #[.string a, .string b, .string c] T))) (w.alloc (.cells #[.string a, .string b, .string c] T)) (.slice (some ⟨w.heap.size, 0, none⟩) 3 3) [a, b, c] := by
 refine ⟨w.heap.size, 0, ⟨_, 3, rfl, Nat.le_refl _, by decide, fun _ => rfl, fun _ => by show w.heap.size < (w.alloc _).heap.size; rw [size_alloc]; omega⟩, fun j s hj => ?_⟩
 match j, hj with
 | 0, hj =>
  obtain rfl : a = s := by simpa using hj
  exact cell_new _ _ _ rfl rfl
 | 1, hj =>
  obtain rfl : b = s := by simpa using hj
  exact cell_new _ _ _ rfl rfl
 | 2, hj =>
  obtain rfl : c = s := by simpa using hj
  exact cell_new _ _ _ rfl rfl
 | j + 3, hj => simp at hj
theorem ok3 : ∀ c ∈ lay3.ats, Ok2 c := by
 intro c hc
 simp only [lay3, List.mem_cons, List.not_mem_nil, or_false] at hc
 rcases hc with rfl | rfl | rfl <;> (unfold Ok2; decide)
theorem k28_fp : Fit 10 8 k28p := fit_cond _ (by intro c hc; simp at hc; rcases hc with rfl | rfl <;> (unfold Ok2; decide))
theorem k28_fq : Fit 10 8 k28q := fit_cond _ (by intro c hc; simp at hc; rcases hc with rfl | rfl | rfl <;> (unfold Ok2; decide))
theorem k28_fb : Fit 3 2 k28b := (fit_var (by decide)).sub (fit_var (by decide)) (by decide) rfl
theorem k28_ct : timesP (oneZ (-3) []) k28q = some k28c := by kernel_rfl
theorem k28_fc : Fit 13 8 k28c := by
 have h := (fit_one (c := -3) (m := []) (k := 1) rfl (show lenI (-3) ≤ 1 from (lenI_small (by decide) : lenI 3 ≤ 1))).times k28_fq k28_ct (by decide)
 exact h.mono (by decide) (by decide)
theorem k28_np : k28p ≠ [] := fun h => by
 have e : k28p.isEmpty = false := by kernel_rfl
 rw [h] at e; cases e
theorem k28_nb : k28b ≠ [] := fun h => by
 have e : k28b.isEmpty = false := by kernel_rfl
 rw [h] at e; cases e
theorem k28_nc : k28c ≠ [] := fun h => by
 have e : k28c.isEmpty = false := by kernel_rfl
 rw [h] at e; cases e
theorem law28_three' (W : World) : Calls Tryz.prog 6 #[] W fun e w' => ∃ (al : Option Addr) (cl : Nat) (ac : Option Addr) (cc : Nat), e = .returned (.agg #[.slice al 3 cl, .slice ac 3 cc, .int .i64 6, .int .i64 6]) ∧ LayV (Old w') w' (.agg #[.slice al 3 cl, .slice ac 3 cc, .int .i64 6, .int .i64 6]) lay3 ∧ Ext W w' :=
 (law28_three W).mono (by
  rintro e w1 ⟨v1, rfl, ⟨vl, vc, rfl, hl, hc⟩, hx1⟩
  obtain ⟨al, cl, el⟩ := hl.form
  obtain ⟨ac, cc, ec⟩ := hc.form
  subst el ec
  exact ⟨al, cl, ac, cc, rfl, ⟨_, _, rfl, hl.to (Kept.refl _ _) New.lt, hc.to (Kept.refl _ _) New.lt⟩, hx1⟩)
theorem law28_known (W : World) : Calls Tryz.prog 8 #[] W fun e w' => e = .returned (.bool true) ∧ Ext W w' := by
 have C0 := hid (law28_three' W)
 go_enter Tryz.func8, Tryz.ntmps8
 go_wp2_with fail
 with_reducible refine C0.out.mono ?_
 rintro e w1 ⟨al, cl, ac, cc, rfl, hl, hx1⟩
 have HX1 := hid hx1
 have HL := hid hl
 clear hl hx1
 obtain ⟨wa, hwa⟩ : ∃ Y, Y = w1.alloc (.cells #[.slice al 3 cl, .slice ac 3 cc, .int .i64 6, .int .i64 6] 35) := ⟨_, rfl⟩
 obtain ⟨b1, hb1⟩ : ∃ b, b = w1.heap.size := ⟨_, rfl⟩
 have HXA : Hid (Ext w1 wa) := hid (by rw [hwa]; exact Ext.alloc (Ext.refl _) _)
 have HSA : Hid (∀ Y, Ext wa Y → Y.cell? ⟨b1, 0, none⟩ = some (.slice al 3 cl) ∧ Y.cell? ⟨b1, 1, none⟩ = some (.slice ac 3 cc) ∧ Y.cell? ⟨b1, 2, none⟩ = some (.int .i64 6) ∧ Y.cell? ⟨b1, 3, none⟩ = some (.int .i64 6)) := hid (fun Y h => by
  rw [hwa] at h
  have k0 : ∀ (i : Nat) (u : Value), #[Value.slice al 3 cl, .slice ac 3 cc, .int .i64 6, .int .i64 6][i]? = some u → Y.cell? ⟨b1, i, none⟩ = some u := fun i u hu => h.cell (cell_new w1 _ _ hb1 hu)
  exact ⟨k0 0 _ rfl, k0 1 _ rfl, k0 2 _ rfl, k0 3 _ rfl⟩)
 have HLA := hid (fun (Y : World) (hY : Ext wa Y) => HL.out.on (HXA.out.trans hY))
 have CA := hid (fun (Y : World) (hY : Ext wa Y) => (show Calls Tryz.prog 17 #[.agg #[.slice al 3 cl, .slice ac 3 cc, .int .i64 6, .int .i64 6], .string { data := #[117, 110, 108, 105, 107, 101] }, .slice (some ⟨Y.heap.size, 0, none⟩) 2 2] (Y.alloc (.cells #[.string { data := #[65] }, .string { data := #[66] }] 9)) fun e w' => ∃ v', e = .returned (.tuple #[v', .int .i64 0]) ∧ PV w' v' k28p ∧ Ext Y w' from
  (ref_condition (W := Y.alloc (.cells #[.string nA, .string nB] 9)) (wd := wUnlike) (names := [nA, nB]) (HLA.out _ (hY.alloc _)) ok3 (strs_lit2 (w := Y) (a := nA) (b := nB) 9) (by decide)).mono (by
   rintro e w' ⟨v', rfl, h, hx⟩
   rw [k28_p] at h ⊢
   exact ⟨v', rfl, h, (Ext.alloc (Ext.refl Y) _).trans hx⟩)))
 have CB := hid (fun (Y : World) (hY : Ext wa Y) => (show Calls Tryz.prog 17 #[.agg #[.slice al 3 cl, .slice ac 3 cc, .int .i64 6, .int .i64 6], .string { data := #[97, 112, 97, 114, 116] }, .slice (some ⟨Y.heap.size, 0, none⟩) 3 3] (Y.alloc (.cells #[.string { data := #[66] }, .string { data := #[65] }, .string { data := #[67] }] 9)) fun e w' => ∃ v', e = .returned (.tuple #[v', .int .i64 0]) ∧ PV w' v' k28q ∧ Ext Y w' from
  (ref_condition (W := Y.alloc (.cells #[.string nB, .string nA, .string nC] 9)) (wd := wApart) (names := [nB, nA, nC]) (HLA.out _ (hY.alloc _)) ok3 (strs_lit3 (w := Y) (a := nB) (b := nA) (c := nC) 9) (by decide)).mono (by
   rintro e w' ⟨v', rfl, h, hx⟩
   rw [k28_q] at h ⊢
   exact ⟨v', rfl, h, (Ext.alloc (Ext.refl Y) _).trans hx⟩)))
 have CS := fun (Y : World) (u : Value) (p : PZ) (hY : Ext wa Y) (hu : PV Y u p) {k n : Nat} (fp : Fit k n p) (h0 : p ≠ []) (hk : k ≤ 1000000) (hn : n ≤ 1000000000000) => side_ofP (HLA.out Y hY) ok3 hu fp h0 hk hn (by decide) (by decide)
 have HCS := hid CS
 have HWA := hid hwa
 have HB1 := hid hb1
 clear hwa hb1 CS
 go_upto_region 2 with fail
 rw [← HB1.out]
 rw [← HWA.out]
 obtain ⟨d0, d1, d2, d3⟩ := HSA.out wa (Ext.refl _)
 go_wp2_with fail
 with_reducible refine (CA.out wa (Ext.refl _)).mono ?_
 rintro e w2 ⟨v2, rfl, hp2, hx2⟩
 have HX2 := hid hx2
 have HP2 := hid hp2
 obtain ⟨a2, c2, rfl⟩ := hp2.form
 obtain ⟨e0, e1, e2, e3⟩ := HSA.out w2 hx2
 clear hp2 hx2 d0 d1 d2 d3
 go_wp2_with fail
 with_reducible refine (CB.out w2 HX2.out).mono ?_
 rintro e w3 ⟨v3, rfl, hp3, hx3⟩
 have HX3 := hid (HX2.out.trans hx3)
 have HP3 := hid hp3
 have HP2 := hid (HP2.out.on hx3)
 obtain ⟨a3, c3, rfl⟩ := hp3.form
 obtain ⟨d0, d1, d2, d3⟩ := HSA.out w3 HX3.out
 clear hp3 hx3 e0 e1 e2 e3
 obtain ⟨sA, hsA⟩ : ∃ s : SideD, s = ⟨wUnlike, [nA, nB], ofP (wholeP k28p)⟩ := ⟨_, rfl⟩
 obtain ⟨sB, hsB⟩ : ∃ s : SideD, s = toldP lay3 (wholeP k28b) := ⟨_, rfl⟩
 obtain ⟨sC, hsC⟩ : ∃ s : SideD, s = ⟨wApart, [nA, nB, nC], ofP (wholeP k28c)⟩ := ⟨_, rfl⟩
 have CS1 := hid (HCS.out w3 _ k28p HX3.out HP2.out k28_fp k28_np (by decide) (by decide))
 rw [k28_a, ← hsA] at CS1
 have HSAE := hid hsA
 have HSBE := hid hsB
 have HSCE := hid hsC
 clear hsA hsB hsC
 go_wp2_with fail
 with_reducible refine CS1.out.mono ?_
 rintro e w4 ⟨v4, rfl, ⟨vn4, vp4, rfl, hs4, ht4⟩, hx4⟩
 have HX4 := hid (HX3.out.trans hx4)
 have HP3 := hid (HP3.out.on hx4)
 obtain ⟨an4, cn4, en4⟩ := hs4.form
 obtain ⟨ap4, cp4, ep4⟩ := ht4.form
 have HSV := hid (SV.fresh (Ext.refl w4) (hs4.to (Kept.refl _ _) New.lt) (ht4.to (Kept.refl _ _) New.lt) 40)
 have HXF := hid (show Ext w4 (w4.alloc (.cells #[.string sA.word, vn4, vp4] 40)) from Ext.alloc (Ext.refl _) _)
 subst en4 ep4
 obtain ⟨w5, hw5⟩ : ∃ Y, Y = w4.alloc (.cells #[.string sA.word, .slice an4 sA.pts.length cn4, .slice ap4 sA.poly.length cp4] 40) := ⟨_, rfl⟩
 rw [← hw5] at HSV HXF
 obtain ⟨b6, hb6⟩ : ∃ b, b = w4.heap.size := ⟨_, rfl⟩
 rw [← hb6] at HSV
 clear hx4 hs4 ht4 d0 d1 d2 d3
 go_upto_region 5 with fail
 rw [← hb6]
 rw [← hw5]
 clear hw5 hb6
 have HX5 := hid (HX4.out.trans HXF.out)
 have HP3 := hid (HP3.out.on HXF.out)
 have HSW : Hid (∀ Y, Ext w5 Y → Y.cell? ⟨b1, 0, none⟩ = some (.slice al 3 cl) ∧ Y.cell? ⟨b1, 1, none⟩ = some (.slice ac 3 cc) ∧ Y.cell? ⟨b1, 2, none⟩ = some (.int .i64 6) ∧ Y.cell? ⟨b1, 3, none⟩ = some (.int .i64 6)) := hid (fun Y h => HSA.out Y (HX5.out.trans h))
 have C1 := hid (fun (Y : World) => rz_x Y (x := 1) (by decide))
 have C2 := hid (fun (Y : World) => rz_x Y (x := 3) (by decide))
 have C3 := hid (fun (Y : World) (u v : Value) (hu : RV Y u (varP 1)) (hv : RV Y v (varP 3)) => (show Calls Tryz.prog 29 #[u, v] Y fun e w' => ∃ v', e = .returned v' ∧ RV w' v' k28b ∧ Ext Y w' from rz_sub hu hv (fit_var (by decide)) (fit_var (by decide)) (by decide) (by decide) (by decide)))
 have C4 := hid (fun (Y : World) (u : Value) (hu : RV Y u k28b) => rz_poly hu k28_fb (by decide) (by decide))
 have C5 := fun (Y : World) (u : Value) (hY : Ext w5 Y) (hu : PV Y u k28b) => HCS.out Y u k28b (HX5.out.trans hY) hu k28_fb k28_nb (by decide) (by decide)
 rw [← HSBE.out] at C5
 have C5 := hid C5
 go_cut [8, 9] (fun us ue wx => ∃ (bs : Nat) (an : Option Addr) (cn : Nat) (ap : Option Addr) (cp : Nat), us = .pointer (some ⟨bs, 0, none⟩) ∧ ue = .int .i64 0 ∧ Hid (SV w5 bs wx sB (.slice an (sB).pts.length cn) (.slice ap (sB).poly.length cp)))
 case first =>
  have HXD := hid (show Ext w5 w5.drew from Ext.drew (Ext.refl _))
  go_region_held3 (fun Y => Y.cell? ⟨b1, 0, none⟩ = some (.slice al 3 cl) ∧ Y.cell? ⟨b1, 1, none⟩ = some (.slice ac 3 cc) ∧ Y.cell? ⟨b1, 2, none⟩ = some (.int .i64 6) ∧ Y.cell? ⟨b1, 3, none⟩ = some (.int .i64 6)) (first | exact HSW.out _ HXD.out | exact HSW.out _ (((Ext.refl w5).alloc _).drew) | exact HSW.out _ HX1.out | exact HSW.out _ (HX1.out.alloc _) | exact HSW.out _ HX2.out | exact HSW.out _ (HX2.out.alloc _) | exact HSW.out _ HX3.out | exact HSW.out _ (HX3.out.alloc _) | exact HSW.out _ HX4.out | exact HSW.out _ (HX4.out.alloc _) | exact HSW.out _ HX5.out | exact HSW.out _ (HX5.out.alloc _) | exact HSW.out _ (ext_set3 HX5.out BX.out.lo _ _ _) | exact HSW.out _ (ext_set3 (HX5.out.alloc _) HX5.out.size _ _ _))
   (first
    | (go_at_call 30; ((with_reducible refine (C1.out _).mono ?_)); rintro e w1 ⟨v1, rfl, hp1, hx1⟩; (first | (have HX1 := hid (HXD.out.trans hx1)) | (have HX1 := hid ((((Ext.refl w5).alloc _).drew).trans hx1)) | fail); (try (have BX := hid (sbx_drew hx1))); have HP1_1 := hid hp1; obtain ⟨a1, c1, rfl⟩ := hp1.form; clear hx1 hp1)
    | (go_at_call 30; (first | (with_reducible refine (C2.out w1   ).mono ?_) | (with_reducible refine (C2.out _   ).mono ?_) | fail); rintro e w2 ⟨v2, rfl, hp2, hx2⟩; (first | (have HX2 := hid (HX1.out.trans hx2)) | (have HX2 := hid ((HX1.out.alloc _).trans hx2)) | fail); (first | (have BX := hid (BX.out.ext hx2)) | (have BX := hid (sbx_new HX1.out hx2)) | skip); (first | (have HP1_2 := hid (RTs.on HP1_1.out hx2)) | (have HP1_2 := hid (RTs.on HP1_1.out ((Ext.alloc (Ext.refl w1) _).trans hx2))) | fail); have HP2_2 := hid hp2; obtain ⟨a2, c2, rfl⟩ := hp2.form; clear hx2 hp2)
    | (go_at_call 29; (first | (with_reducible refine (C3.out w2 _ _  HP1_2.out HP2_2.out).mono ?_) | (with_reducible refine (C3.out _ _ _  (RTs.on HP1_2.out (Ext.alloc (Ext.refl w2) _)) (RTs.on HP2_2.out (Ext.alloc (Ext.refl w2) _))).mono ?_) | fail); rintro e w3 ⟨v3, rfl, hp3, hx3⟩; (first | (have HX3 := hid (HX2.out.trans hx3)) | (have HX3 := hid ((HX2.out.alloc _).trans hx3)) | fail); (first | (have BX := hid (BX.out.ext hx3)) | (have BX := hid (sbx_new HX2.out hx3)) | skip); have HP3_3 := hid hp3; obtain ⟨a3, c3, rfl⟩ := hp3.form; clear hx3 hp3)
    | (go_at_call 20; (first | (with_reducible refine (C4.out w3 _  HP3_3.out).mono ?_) | (with_reducible refine (C4.out _ _  (RTs.on HP3_3.out (Ext.alloc (Ext.refl w3) _))).mono ?_) | fail); rintro e w4 ⟨v4, rfl, hp4, hx4⟩; (first | (have HX4 := hid (HX3.out.trans hx4)) | (have HX4 := hid ((HX3.out.alloc _).trans hx4)) | fail); (first | (have BX := hid (BX.out.ext hx4)) | (have BX := hid (sbx_new HX3.out hx4)) | skip); have HP4_4 := hid hp4; obtain ⟨a4, c4, rfl⟩ := hp4.form; clear hx4 hp4)
    | (go_at_call 9; (first | (with_reducible refine (C5.out w4 _ HX4.out HP4_4.out).mono ?_) | (with_reducible refine (C5.out _ _ (HX4.out.alloc _) (Terms.on HP4_4.out (Ext.alloc (Ext.refl w4) _))).mono ?_) | fail); rintro e w5 ⟨v5, rfl, ⟨vn, vp, rfl, hs, ht⟩, hx5⟩; (try (have BX0 := BX)); (first | (have HX5 := hid (HX4.out.trans hx5)) | (have HX5 := hid ((HX4.out.alloc _).trans hx5)) | fail); (first | (have BX := hid (BX.out.ext hx5)) | (have BX := hid (sbx_new HX4.out hx5)) | skip); (try (obtain ⟨y0, y1, y2, yf0, yf1, yf2, -⟩ := BX.out)); have HS := hid hs; have HT := hid ht; have HXL := hid hx5; obtain ⟨an, cn, rfl⟩ := hs.form; obtain ⟨ap, cp, rfl⟩ := ht.form; clear hx5 hs ht)
    | fail)
  all_goals
   go_wp2_with fail
   go_meet
   first
    | exact ⟨_, _, _, _, _, rfl, rfl, hid (SV.put BX.out HX5.out (HS.out.to (Kept.refl _ _) (fun k hk => ⟨hk.2, fun e => by have h1 := hk.1; rw [size_alloc] at h1; omega⟩)) (HT.out.to (Kept.refl _ _) (fun k hk => ⟨hk.2, fun e => by have h1 := hk.1; rw [size_alloc] at h1; omega⟩)))⟩
    | exact ⟨_, _, _, _, _, rfl, rfl, hid (SV.put BX.out HX5.out (HS.out.to (Kept.refl _ _) (fun k hk => ⟨hk.2, fun e => by have h1 := hk.1; have h2 := lt_of_cell BX0.out.c0; omega⟩)) (HT.out.to (Kept.refl _ _) (fun k hk => ⟨hk.2, fun e => by have h1 := hk.1; have h2 := lt_of_cell BX0.out.c0; omega⟩)))⟩
    | exact ⟨_, _, _, _, _, rfl, rfl, hid (SV.fresh HX5.out (HS.out.to (Kept.refl _ _) (fun k hk => hk.2)) (HT.out.to (Kept.refl _ _) (fun k hk => hk.2)) _)⟩
    | fail
 case rest =>
  obtain ⟨b7, an7, cn7, ap7, cp7, rfl, rfl, HSV2⟩ := hcut
  have HX6 := hid (HX5.out.trans HSV2.out.1)
  have HSV := hid (HSV.out.ext HSV2.out.1)
  have HP3 := hid (HP3.out.on HSV2.out.1)
  go_upto_region 6 with fail
  obtain ⟨w6, hw6⟩ : ∃ Y, Y = wc := ⟨_, rfl⟩
  rw [← hw6] at HX6 HSV HSV2 HP3 ⊢
  clear hw6
  have HSW : Hid (∀ Y, Ext w6 Y → Y.cell? ⟨b1, 0, none⟩ = some (.slice al 3 cl) ∧ Y.cell? ⟨b1, 1, none⟩ = some (.slice ac 3 cc) ∧ Y.cell? ⟨b1, 2, none⟩ = some (.int .i64 6) ∧ Y.cell? ⟨b1, 3, none⟩ = some (.int .i64 6)) := hid (fun Y h => HSA.out Y (HX6.out.trans h))
  have C1 := hid (fun (Y : World) => rz_smallZ Y (n := -3) (by decide))
  have C2 := hid (fun (Y : World) (hY : Ext w6 Y) => rz_ofP (HP3.out.on hY) k28_fq (by decide) (by decide))
  have C3 := hid (fun (Y : World) (u v : Value) (hu : RV Y u (oneZ (-3) [])) (hv : RV Y v k28q) => rz_mulV hu hv (fit_one (c := -3) (m := []) (k := 1) rfl (show lenI (-3) ≤ 1 from (lenI_small (by decide) : lenI 3 ≤ 1))) k28_fq (by decide) (by decide) (by decide) (by decide) k28_ct)
  have C4 := hid (fun (Y : World) (u : Value) (hu : RV Y u k28c) => rz_poly hu k28_fc (by decide) (by decide))
  have C5 := fun (Y : World) (u : Value) (hY : Ext w6 Y) (hu : PV Y u k28c) => HCS.out Y u k28c (HX6.out.trans hY) hu k28_fc k28_nc (by decide) (by decide)
  rw [k28_cc, ← HSCE.out] at C5
  have C5 := hid C5
  go_cut [10, 11] (fun us ue wx => ∃ (bs : Nat) (an : Option Addr) (cn : Nat) (ap : Option Addr) (cp : Nat), us = .pointer (some ⟨bs, 0, none⟩) ∧ ue = .int .i64 0 ∧ Hid (SV w6 bs wx sC (.slice an (sC).pts.length cn) (.slice ap (sC).poly.length cp)))
  case first =>
   have HXD := hid (show Ext w6 w6.drew from Ext.drew (Ext.refl _))
   go_region_held3 (fun Y => Y.cell? ⟨b1, 0, none⟩ = some (.slice al 3 cl) ∧ Y.cell? ⟨b1, 1, none⟩ = some (.slice ac 3 cc) ∧ Y.cell? ⟨b1, 2, none⟩ = some (.int .i64 6) ∧ Y.cell? ⟨b1, 3, none⟩ = some (.int .i64 6)) (first | exact HSW.out _ HXD.out | exact HSW.out _ (((Ext.refl w6).alloc _).drew) | exact HSW.out _ HX1.out | exact HSW.out _ (HX1.out.alloc _) | exact HSW.out _ HX2.out | exact HSW.out _ (HX2.out.alloc _) | exact HSW.out _ HX3.out | exact HSW.out _ (HX3.out.alloc _) | exact HSW.out _ HX4.out | exact HSW.out _ (HX4.out.alloc _) | exact HSW.out _ HX5.out | exact HSW.out _ (HX5.out.alloc _) | exact HSW.out _ (ext_set3 HX5.out BX.out.lo _ _ _) | exact HSW.out _ (ext_set3 (HX5.out.alloc _) HX5.out.size _ _ _))
    (first
     | (go_at_call 19; ((with_reducible refine (C1.out _).mono ?_)); rintro e w1 ⟨v1, rfl, hp1, hx1⟩; (first | (have HX1 := hid (HXD.out.trans hx1)) | (have HX1 := hid ((((Ext.refl w6).alloc _).drew).trans hx1)) | fail); (try (have BX := hid (sbx_drew hx1))); have HP1_1 := hid hp1; obtain ⟨a1, c1, rfl⟩ := hp1.form; clear hx1 hp1)
     | (go_at_call 12; (first | (with_reducible refine (C2.out w1  HX1.out ).mono ?_) | (with_reducible refine (C2.out _  (HX1.out.alloc _) ).mono ?_) | fail); rintro e w2 ⟨v2, rfl, hp2, hx2⟩; (first | (have HX2 := hid (HX1.out.trans hx2)) | (have HX2 := hid ((HX1.out.alloc _).trans hx2)) | fail); (first | (have BX := hid (BX.out.ext hx2)) | (have BX := hid (sbx_new HX1.out hx2)) | skip); (first | (have HP1_2 := hid (RTs.on HP1_1.out hx2)) | (have HP1_2 := hid (RTs.on HP1_1.out ((Ext.alloc (Ext.refl w1) _).trans hx2))) | fail); have HP2_2 := hid hp2; obtain ⟨a2, c2, rfl⟩ := hp2.form; clear hx2 hp2)
     | (go_at_call 18; (first | (with_reducible refine (C3.out w2 _ _  HP1_2.out HP2_2.out).mono ?_) | (with_reducible refine (C3.out _ _ _  (RTs.on HP1_2.out (Ext.alloc (Ext.refl w2) _)) (RTs.on HP2_2.out (Ext.alloc (Ext.refl w2) _))).mono ?_) | fail); rintro e w3 ⟨v3, rfl, hp3, hx3⟩; (first | (have HX3 := hid (HX2.out.trans hx3)) | (have HX3 := hid ((HX2.out.alloc _).trans hx3)) | fail); (first | (have BX := hid (BX.out.ext hx3)) | (have BX := hid (sbx_new HX2.out hx3)) | skip); have HP3_3 := hid hp3; obtain ⟨a3, c3, rfl⟩ := hp3.form; clear hx3 hp3)
     | (go_at_call 20; (first | (with_reducible refine (C4.out w3 _  HP3_3.out).mono ?_) | (with_reducible refine (C4.out _ _  (RTs.on HP3_3.out (Ext.alloc (Ext.refl w3) _))).mono ?_) | fail); rintro e w4 ⟨v4, rfl, hp4, hx4⟩; (first | (have HX4 := hid (HX3.out.trans hx4)) | (have HX4 := hid ((HX3.out.alloc _).trans hx4)) | fail); (first | (have BX := hid (BX.out.ext hx4)) | (have BX := hid (sbx_new HX3.out hx4)) | skip); have HP4_4 := hid hp4; obtain ⟨a4, c4, rfl⟩ := hp4.form; clear hx4 hp4)
     | (go_at_call 9; (first | (with_reducible refine (C5.out w4 _ HX4.out HP4_4.out).mono ?_) | (with_reducible refine (C5.out _ _ (HX4.out.alloc _) (Terms.on HP4_4.out (Ext.alloc (Ext.refl w4) _))).mono ?_) | fail); rintro e w5 ⟨v5, rfl, ⟨vn, vp, rfl, hs, ht⟩, hx5⟩; (try (have BX0 := BX)); (first | (have HX5 := hid (HX4.out.trans hx5)) | (have HX5 := hid ((HX4.out.alloc _).trans hx5)) | fail); (first | (have BX := hid (BX.out.ext hx5)) | (have BX := hid (sbx_new HX4.out hx5)) | skip); (try (obtain ⟨y0, y1, y2, yf0, yf1, yf2, -⟩ := BX.out)); have HS := hid hs; have HT := hid ht; have HXL := hid hx5; obtain ⟨an, cn, rfl⟩ := hs.form; obtain ⟨ap, cp, rfl⟩ := ht.form; clear hx5 hs ht)
     | fail)
   all_goals
    go_wp2_with fail
    go_meet
    first
     | exact ⟨_, _, _, _, _, rfl, rfl, hid (SV.put BX.out HX5.out (HS.out.to (Kept.refl _ _) (fun k hk => ⟨hk.2, fun e => by have h1 := hk.1; rw [size_alloc] at h1; omega⟩)) (HT.out.to (Kept.refl _ _) (fun k hk => ⟨hk.2, fun e => by have h1 := hk.1; rw [size_alloc] at h1; omega⟩)))⟩
     | exact ⟨_, _, _, _, _, rfl, rfl, hid (SV.put BX.out HX5.out (HS.out.to (Kept.refl _ _) (fun k hk => ⟨hk.2, fun e => by have h1 := hk.1; have h2 := lt_of_cell BX0.out.c0; omega⟩)) (HT.out.to (Kept.refl _ _) (fun k hk => ⟨hk.2, fun e => by have h1 := hk.1; have h2 := lt_of_cell BX0.out.c0; omega⟩)))⟩
     | exact ⟨_, _, _, _, _, rfl, rfl, hid (SV.fresh HX5.out (HS.out.to (Kept.refl _ _) (fun k hk => hk.2)) (HT.out.to (Kept.refl _ _) (fun k hk => hk.2)) _)⟩
     | fail
  case rest =>
   obtain ⟨b8, an8, cn8, ap8, cp8, rfl, rfl, HSV3⟩ := hcut
   have HSV := hid (HSV.out.ext HSV3.out.1)
   have HSV2 := hid (HSV2.out.ext HSV3.out.1)
   have HX7 := hid (HX1.out.trans (HXA.out.trans (HX6.out.trans HSV3.out.1)))
   obtain ⟨-, -, ⟨p0, p1, -⟩, ps, -⟩ := HSV.out
   obtain ⟨-, -, ⟨q0, -, -⟩, -, -⟩ := HSV2.out
   obtain ⟨-, -, ⟨r0, r1, -⟩, rs, -⟩ := HSV3.out
   have ea : sA.pts.length = 2 := by rw [HSAE.out]; rfl
   have ec : sC.pts.length = 3 := by rw [HSCE.out]; rfl
   rw [ea] at p1 ps
   rw [ec] at r1 rs
   obtain ⟨ba, oa, rfl, -, ha1, ha2, -, hpa⟩ := ps.cellAt (k := 0) (x := nA) (by rw [HSAE.out]; rfl)
   obtain ⟨bc, oc, rfl, -, hc1, hc2, -, hpc⟩ := rs.cellAt (k := 0) (x := nA) (by rw [HSCE.out]; rfl)
   have x1 := isUnlike (wd := sA.word) (by rw [HSAE.out])
   have x2 := isApart (wd := sC.word) (by rw [HSCE.out])
   have x3 : (sB.word.toList == []) = true := by rw [HSBE.out, k28_bb, ByteArray.toList_eq]; rfl
   have x4 : (nA.toList == [65]) = true := by kernel_rfl
   clear ea ec ps rs
   simp only [Nat.add_zero] at hpa hpc
   go_wp2
   all_goals
    go_ret
    exact ⟨rfl, HX7.out⟩
end
section
open Go.RowKit
def scaleP (T : Int) (p : PZ) : PZ := p.map fun t => (T * t.1, t.2)
theorem scaleP_can {T : Int} {p : PZ} (hT : T ≠ 0) (h : canP p) : canP (scaleP T p) := by
 refine ⟨fun t ht => ?_, ?_⟩
 ·obtain ⟨u, hu, rfl⟩ := List.mem_map.1 ht
  exact ⟨Int.mul_ne_zero hT (h.1 u hu).1, (h.1 u hu).2⟩
 ·unfold scaleP
  rw [List.pairwise_map]
  exact h.2
theorem scale_times {T : Int} {p : PZ} (hT : T ≠ 0) (h : canP p) : timesP (oneZ T []) p = some (scaleP T p) := by
 have e : oneZ T [] = [(T, ([] : Mono))] := if_neg hT
 have h1 : mayAll [(T, ([] : Mono))] := fun u hu => by rw [List.mem_singleton.1 hu]; rfl
 have e2 : mulL [(T, [])] p = scaleP T p := by
  unfold mulL scaleP
  rw [List.flatMap_singleton]
  exact List.map_congr_left (fun t ht => by rw [times_one_left (may_ok (h.1 t ht).2)])
 rw [e, times_norm h1 h.may (by rw [e2]; exact (scaleP_can hT h).may), e2, normP_of_can (scaleP_can hT h)]
theorem contN_scale (T : Int) : ∀ p : PZ, contN (scaleP T p) = T.natAbs * contN p
 | [] => rfl
 | t :: r => by
  show Nat.gcd (contN (scaleP T r)) (T * t.1).natAbs = T.natAbs * Nat.gcd (contN r) t.1.natAbs
  rw [contN_scale T r, Int.natAbs_mul, Nat.gcd_mul_left]
theorem sgC_scale {T : Int} {p : PZ} (hT : T ≠ 0) (h : canP p) : sgC (scaleP T p) = T * sgC p := by
 cases p with
 | nil => exact (Int.mul_zero T).symm
 | cons t r =>
  have ht := (h.1 t (List.mem_cons_self ..)).1
  have e1 : (contN (scaleP T (t :: r)) : Int) = T.natAbs * (contN (t :: r) : Int) := by rw [contN_scale]; exact Int.natCast_mul ..
  show (if T * t.1 < 0 then -(contN (scaleP T (t :: r)) : Int) else (contN (scaleP T (t :: r)) : Int)) = T * (if t.1 < 0 then -(contN (t :: r) : Int) else (contN (t :: r) : Int))
  rw [e1]
  generalize (contN (t :: r) : Int) = c
  rcases Int.lt_or_gt_of_ne hT with hn | hp
  ·have ea : (T.natAbs : Int) = -T := by omega
   rw [ea]
   rcases Int.lt_or_gt_of_ne ht with h1 | h1
   ·have := Int.mul_pos_of_neg_of_neg hn h1
    rw [if_pos h1, if_neg (show ¬ T * t.1 < 0 by omega), Int.neg_mul, Int.mul_neg]
   ·rw [if_neg (show ¬ t.1 < 0 by omega), if_pos (Int.mul_neg_of_neg_of_pos hn h1), Int.neg_mul, Int.neg_neg]
  ·have ea : (T.natAbs : Int) = T := by omega
   rw [ea]
   rcases Int.lt_or_gt_of_ne ht with h1 | h1
   ·rw [if_pos h1, if_pos (Int.mul_neg_of_pos_of_neg hp h1), Int.mul_neg]
   ·have := Int.mul_pos hp h1
    rw [if_neg (show ¬ t.1 < 0 by omega), if_neg (show ¬ T * t.1 < 0 by omega)]
theorem whole_scale {T : Int} {p : PZ} (hT : T ≠ 0) (h : canP p) (h0 : p ≠ []) : wholeP (scaleP T p) = wholeP p := by
 have hs := sgC_ne h h0
 unfold wholeP
 rw [sgC_scale hT h]
 unfold scaleP
 rw [List.map_map]
 refine List.map_congr_left (fun t ht => ?_)
 obtain ⟨k, hk⟩ := sgC_dvd ht
 show (T * t.1 / (T * sgC p), t.2) = (t.1 / sgC p, t.2)
 rw [hk, ← Int.mul_assoc, Int.mul_ediv_cancel_left _ (Int.mul_ne_zero hT hs), Int.mul_ediv_cancel_left _ hs]
theorem scale_whole (p : PZ) : scaleP (sgC p) (wholeP p) = p := by
 unfold scaleP wholeP
 rw [List.map_map]
 have e : p.map ((fun t : Int × Mono => (sgC p * t.1, t.2)) ∘ fun t => (t.1 / sgC p, t.2)) = p.map id := List.map_congr_left (fun t ht => by
  show (sgC p * (t.1 / sgC p), t.2) = t
  rw [Int.mul_comm, whole_mul_sg ht])
 rw [e, List.map_id]
theorem whole_ne {p : PZ} (h0 : p ≠ []) : wholeP p ≠ [] := fun e => h0 (List.length_eq_zero_iff.1 (by rw [← whole_len, e]; rfl))
theorem whole_whole {p : PZ} (h : canP p) (h0 : p ≠ []) : wholeP (wholeP p) = wholeP p := by
 have e := whole_scale (sgC_ne h h0) (whole_can h) (whole_ne h0)
 rw [scale_whole] at e
 exact e.symm
theorem toldL_mem {x : Lay} {p : PZ} {names : List ByteArray} {wd : ByteArray} {row : List ByteArray} : ∀ {l : List (ByteArray × Nat)}, toldL x p names l = some (wd, row) → ∃ m k, (wd, m) ∈ l ∧ k < names.length ^ m ∧ row = rowK names m k ∧ hitP x p wd row = true
 | [], h => by cases h
 | (w, m) :: r, h => by
  unfold toldL at h
  split at h
  ·next row' e =>
   have e1 := Option.some.inj h
   obtain rfl : w = wd := congrArg Prod.fst e1
   obtain rfl : row' = row := congrArg Prod.snd e1
   unfold hitW at e
   obtain ⟨k, hk, rfl⟩ := Option.map_eq_some_iff.1 e
   exact ⟨m, k, List.mem_cons_self .., List.mem_range.1 (List.mem_of_find?_eq_some hk), rfl, by simpa using List.find?_some hk⟩
  ·obtain ⟨m', k, h1, h2⟩ := toldL_mem h
   exact ⟨m', k, List.mem_cons_of_mem _ h1, h2⟩
theorem told_cases (x : Lay) (p : PZ) : ((toldP x p).word = ByteArray.empty ∧ (toldP x p).pts = []) ∨ ∃ m k, ((toldP x p).word, m) ∈ wordsL ∧ 2 ≤ (namesP x (ofP p)).length ∧ (namesP x (ofP p)).length ≤ 6 ∧ k < (namesP x (ofP p)).length ^ m ∧ (toldP x p).pts = rowK (namesP x (ofP p)) m k ∧ hitP x p (toldP x p).word (toldP x p).pts = true := by
 by_cases hb : (namesP x (ofP p)).length < 2 ∨ 6 < (namesP x (ofP p)).length
 ·left
  unfold toldP
  rw [if_pos hb]
  exact ⟨rfl, rfl⟩
 ·cases ht : toldL x p (namesP x (ofP p)) wordsL with
  | none => rw [told_none hb ht]; exact .inl ⟨rfl, rfl⟩
  | some r =>
   obtain ⟨wd, row⟩ := r
   rw [told_rest hb ht]
   obtain ⟨m, k, h1, h2, rfl, h3⟩ := toldL_mem ht
   exact .inr ⟨m, k, h1, by omega, by omega, h2, rfl, h3⟩
end
section
open Go.RowKit Go.Deep Go.ChangeShapes Go.WideShapes Go.ChangeAt Go.Joins
theorem Tryz.cells_side : Tryz.prog.cellsOf 40 = 3 := by kernel_rfl
theorem Tryz.cells_poly28 : Tryz.prog.cellsOf 23 = 1 := by kernel_rfl
section
variable {H : Type} {enc : TypeId × Value → H} {W : World} {base b0 : Nat} {sp : Nat → Bool} {held : Bool}
theorem side_arg {v : Value} {d : DataW H} {p : List MemPlace} (hv : Value.okWide Tryz.prog W .any base 40 v) (h : DataW.Trod enc Tryz.prog W b0 sp held 40 v d p) : ∃ s : SideD, SideV (Old W) W v s := by
 obtain ⟨cs, rfl, hsz⟩ := okWide_struct Tryz.underlying40 hv
 obtain ⟨c0, c1, c2, rfl⟩ := array3 (hsz.trans Tryz.cells_side)
 obtain ⟨fuel, hf⟩ := h
 obtain ⟨y0, y1, y2, n, _, _, h0, h1, h2⟩ := trod_struct3 Tryz.underlying40 hf
 simp [Tryz.cells_string, Tryz.cells_sstring, Tryz.cells_poly28, Value.cells] at h0 h1 h2
 obtain ⟨wd, e0, _, _⟩ := DataW.trod_string Tryz.underlying9 h0
 simp at e0
 subst e0
 obtain ⟨l, hl⟩ := open_strs h1
 obtain ⟨ts, hts⟩ := open_terms h2
 exact ⟨⟨wd, l, ts⟩, c1, c2, rfl, hl, hts⟩
end
end
section
open Go.RowKit
def polyX (x : Lay) (s : SideD) : Int × PZ :=
 if s.word.toList == [] then (if mayT s.poly = false ∨ s.poly = [] then (2, []) else (0, wholeP (plainP s.poly)))
 else if (condX x s.word s.pts).1 ≠ 0 then ((condX x s.word s.pts).1, [])
 else if (condX x s.word s.pts).2 = [] then (2, []) else (0, wholeP (condX x s.word s.pts).2)
theorem side_poly {W : World} {v vs : Value} {x : Lay} {s : SideD} {k n : Nat} (hx : LayV (Old W) W v x) (hok : ∀ c ∈ x.ats, Ok2 c) (hs : SideV (Old W) W vs s) (hlk : ∀ t ∈ s.poly, t.c.mag.length ≤ k) (hk : k ≤ 1000000) (hln : s.poly.length ≤ n) (hn : n ≤ 1000000000000) (hw : s.word.size ≤ 1000) (hnl : s.pts.length ≤ 1000) :
  Calls Tryz.prog 21 #[v, vs] W fun e w' => ∃ v', e = .returned (.tuple #[v', .int .i64 (polyX x s).1]) ∧ PV w' v' (polyX x s).2 ∧ Ext W w' := by
 have hnot : ∀ (x : Bool) (w : World), (Op.unary .not (.bool x)).run Tryz.prog w = .ok (.bool (!x)) w := fun _ _ => rfl
 have HL := hid (fun (Y : World) (hY : Ext W Y) => hx.on hY)
 have HS := hid (fun (Y : World) (hY : Ext W Y) => hs.on hY)
 have HOK := hid hok
 have HSM : Hid (smallT s.poly) := hid (fun t ht => Nat.le_trans (hlk t ht) (Nat.le_trans hk (by decide)))
 obtain ⟨vq, va, rfl, hq, ha⟩ := hx
 obtain ⟨ap, cp, rfl⟩ := hq.form
 obtain ⟨aa, ca, rfl⟩ := ha.form
 obtain ⟨vn, vp, rfl, hsn, hsp⟩ := hs
 have HSN := hid (fun (Y : World) (hY : Ext W Y) => hsn.to (Kept.ext hY (fun _ h => h)) (old_lt hY))
 have HSP := hid (fun (Y : World) (hY : Ext W Y) => Terms.on hsp hY)
 obtain ⟨an, cn, rfl⟩ := hsn.form
 obtain ⟨av, cs, rfl⟩ := hsp.form
 obtain ⟨np, hnp⟩ : ∃ n, n = x.pts.length := ⟨_, rfl⟩
 obtain ⟨na, hna⟩ : ∃ n, n = x.ats.length := ⟨_, rfl⟩
 obtain ⟨nn, hnn⟩ : ∃ n, n = s.pts.length := ⟨_, rfl⟩
 obtain ⟨nt, hnt⟩ : ∃ n, n = s.poly.length := ⟨_, rfl⟩
 rw [← hnp, ← hna] at HL ⊢
 rw [← hnn] at HSN ⊢
 rw [← hnt] at HSP ⊢
 obtain ⟨w0, hw0⟩ : ∃ Y, Y = (W.alloc (.cells #[.slice ap np cp, .slice aa na ca, .int .i64 x.par, .int .i64 x.vrs] 35)).alloc (.cells #[.string s.word, .slice an nn cn, .slice av nt cs] 40) := ⟨_, rfl⟩
 have HX0 : Hid (Ext W w0) := hid (by rw [hw0]; exact (Ext.alloc (Ext.refl _) _).alloc _)
 have HB := hid (fun (Y : World) (hY : Ext w0 Y) => by
  rw [hw0] at hY
  have k0 : ∀ (i : Nat) (u : Value), #[Value.slice ap np cp, .slice aa na ca, .int .i64 x.par, .int .i64 x.vrs][i]? = some u → Y.cell? ⟨W.heap.size, i, none⟩ = some u := fun i u hu => hY.cell (cell_old _ (cell_new W _ _ rfl hu))
  have k2 : ∀ (i : Nat) (u : Value), #[Value.string s.word, .slice an nn cn, .slice av nt cs][i]? = some u → Y.cell? ⟨W.heap.size + 1, i, none⟩ = some u := fun i u hu => hY.cell (cell_new _ _ _ (by rw [size_alloc]) hu)
  exact And.intro (And.intro (k0 0 _ rfl) (And.intro (k0 1 _ rfl) (And.intro (k0 2 _ rfl) (k0 3 _ rfl)))) (And.intro (k2 0 _ rfl) (And.intro (k2 1 _ rfl) (k2 2 _ rfl))))
 have HNT := hid hnt
 have CC := hypo_condition (W := w0) (wd := s.word) (names := s.pts) (HL.out w0 HX0.out) HOK.out (HSN.out w0 HX0.out) hw hnl
 have CM := hid (fun (Y : World) (hY : Ext W Y) => poly_may (S := Old Y) (.slice av nt cs) s.poly Y (HSP.out Y hY) (fun _ h => h) HSM.out)
 have HFC := hid (fun (q : PZ) (h : condX x s.word s.pts = (0, q)) => cond_fit hok h)
 have HFP : Hid (mayT s.poly = true → s.poly = ofP (plainP s.poly) ∧ Fit k n (plainP s.poly)) := hid (fun h => ⟨(by have e := mayT_of hsp.okT h; rw [plainP_yes h]; exact e.symm), fit_plain hsp.okT hlk hln⟩)
 have HK := hid (And.intro hk hn)
 have HW0 := hid hw0
 obtain ⟨we, hwe⟩ : ∃ b, b = (s.word.toList == []) := ⟨_, rfl⟩
 have q0 := hwe.symm
 have HWE := hid hwe
 have HBX := hid (HB.out w0 (Ext.refl _))
 clear hq ha hsn hsp hnp hna hnn hnt hw0 hok hlk hln hk hn hw hnl hwe
 go_enter Tryz.func21, Tryz.ntmps21
 go_upto_region 1 with fail
 rw [← HW0.out]
 obtain ⟨⟨d0, d1, d2, d3⟩, e0, e1, e2⟩ := HBX.out
 cases we with
 | true =>
  have HPX : Hid (polyX x s = if mayT s.poly = false ∨ s.poly = [] then (2, []) else (0, wholeP (plainP s.poly))) := hid (by unfold polyX; rw [if_pos HWE.out.symm])
  clear CC
  go_wp2_with fail
  with_reducible refine (CM.out w0 HX0.out).mono ?_
  rintro e w1 ⟨rfl, hx1⟩
  have HX1 := hid (HX0.out.trans hx1)
  clear hx1 q0 d0 d1 d2 d3 e0 e1 e2
  cases hm : mayT s.poly with
  | false =>
   have HE : Hid (polyX x s = (2, [])) := hid (by rw [HPX.out, if_pos (.inl hm)])
   clear hm
   go_wp2
   all_goals
    go_ret2
    exact ⟨.slice none 0 0, by rw [HE.out]; rfl, by rw [HE.out]; exact Terms.nilv _ _ _ _ (by omega), HX1.out⟩
  | true =>
   have HM := hid hm
   clear hm
   by_cases h0 : s.poly = []
   ·have HE : Hid (polyX x s = (2, [])) := hid (by rw [HPX.out, if_pos (.inr h0)])
    have hn0 : nt = 0 := by rw [HNT.out, h0]; rfl
    subst hn0
    clear h0
    go_wp2
    all_goals
     go_ret2
     exact ⟨.slice none 0 0, by rw [HE.out]; rfl, by rw [HE.out]; exact Terms.nilv _ _ _ _ (by omega), HX1.out⟩
   ·have HE : Hid (polyX x s = (0, wholeP (plainP s.poly))) := hid (by rw [HPX.out, if_neg (by rw [HM.out]; rintro (h | h); cases h; exact h0 h)])
    have hn0 : 0 < nt := by rw [HNT.out]; exact List.length_pos_iff.2 h0
    have CW := hid (poly_whole (p := plainP s.poly) (vp := .slice av nt cs) (W := w1) (by have h := HSP.out w1 HX1.out; rw [(HFP.out HM.out).1] at h; exact h) (HFP.out HM.out).2 HK.out.1 HK.out.2)
    clear h0
    go_wp2_with fail
    with_reducible refine CW.out.mono ?_
    rintro e w2 ⟨v2, rfl, ht2, hx2⟩
    have HX2 := hid (HX1.out.trans hx2)
    have HT2 := hid ht2
    obtain ⟨a2, c2, rfl⟩ := ht2.form
    clear ht2 hx2
    go_wp2
    all_goals
     go_ret2
     exact ⟨_, by rw [HE.out]; rfl, by rw [HE.out]; exact HT2.out.to (Kept.refl _ _) New.lt, HX2.out⟩
 | false =>
  obtain ⟨er, q, hc⟩ : ∃ er q, condX x s.word s.pts = (er, q) := ⟨_, _, rfl⟩
  have HPX : Hid (polyX x s = if er ≠ 0 then (er, []) else if q = [] then (2, []) else (0, wholeP q)) := hid (by unfold polyX; rw [if_neg (by rw [← HWE.out]; exact Bool.false_ne_true), hc])
  rw [hc] at CC
  have CC := hid CC
  have HC := hid hc
  clear hc
  go_wp2_with fail
  with_reducible refine CC.out.mono ?_
  rintro e w1 ⟨v1, rfl, ht1, hx1⟩
  have HX1 := hid (HX0.out.trans hx1)
  have HT1 := hid (show Terms (Old w1) w1 v1 (ofP q) from ht1.to (Kept.refl _ _) New.lt)
  obtain ⟨a1, c1, rfl⟩ := ht1.form
  obtain ⟨n1, hn1⟩ : ∃ n, n = (ofP q).length := ⟨_, rfl⟩
  rw [← hn1] at HT1 ⊢
  have HN1 := hid hn1
  clear ht1 hx1 q0 d0 d1 d2 d3 e0 e1 e2 hn1
  by_cases he : er = 0
  ·subst he
   have HF := hid (HFC.out q HC.out)
   have CM1 := hid (poly_may (S := Old w1) (.slice a1 n1 c1) (ofP q) w1 HT1.out (fun _ h => h) (fun t ht => Nat.le_trans (HF.out.lens t ht) (by decide)))
   rw [HF.out.may] at CM1
   go_wp2_with fail
   with_reducible refine CM1.out.mono ?_
   rintro e w2 ⟨rfl, hx2⟩
   have HX2 := hid (HX1.out.trans hx2)
   have HT2 := hid (Terms.on HT1.out hx2)
   clear hx2
   by_cases h0 : q = []
   ·have HE : Hid (polyX x s = (2, [])) := hid (by rw [HPX.out, if_neg (by simp), if_pos h0])
    have hn0 : n1 = 0 := by rw [HN1.out, h0]; rfl
    subst hn0
    clear h0
    go_wp2
    all_goals
     go_ret2
     exact ⟨.slice none 0 0, by rw [HE.out]; rfl, by rw [HE.out]; exact Terms.nilv _ _ _ _ (by omega), HX2.out⟩
   ·have HE : Hid (polyX x s = (0, wholeP q)) := hid (by rw [HPX.out, if_neg (by simp), if_neg h0])
    have hn0 : 0 < n1 := by rw [HN1.out, ofP_len]; exact List.length_pos_iff.2 h0
    have CW := hid (poly_whole (p := q) (vp := .slice a1 n1 c1) (W := w2) HT2.out HF.out (by decide) (by decide))
    clear h0
    go_wp2_with fail
    with_reducible refine CW.out.mono ?_
    rintro e w3 ⟨v3, rfl, ht3, hx3⟩
    have HX3 := hid (HX2.out.trans hx3)
    have HT3 := hid ht3
    obtain ⟨a3, c3, rfl⟩ := ht3.form
    clear ht3 hx3
    go_wp2
    all_goals
     go_ret2
     exact ⟨_, by rw [HE.out]; rfl, by rw [HE.out]; exact HT3.out.to (Kept.refl _ _) New.lt, HX3.out⟩
  ·have HE : Hid (polyX x s = (er, [])) := hid (by rw [HPX.out, if_pos he])
   have q1 : (er == 0) = false := beq_eq_false_iff_ne.2 he
   clear he
   go_wp2
   all_goals
    go_ret2
    exact ⟨.slice none 0 0, by rw [HE.out]; rfl, by rw [HE.out]; exact Terms.nilv _ _ _ _ (by omega), HX1.out⟩
end
section
open Go.RowKit
theorem words_ne {wd : ByteArray} {m : Nat} (h : (wd, m) ∈ wordsL) : (wd.toList == []) = false := by
 unfold wordsL at h
 simp only [List.mem_cons, List.not_mem_nil, or_false, Prod.mk.injEq] at h
 rcases h with ⟨rfl, rfl⟩ | ⟨rfl, rfl⟩ | ⟨rfl, rfl⟩ | ⟨rfl, rfl⟩ <;> kernel_rfl
theorem poly_told {x : Lay} {P : PZ} (hP : canP P) (h0 : P ≠ []) : polyX x (toldP x (wholeP P)) = (0, wholeP P) := by
 unfold polyX
 rcases told_cases x (wholeP P) with ⟨h1, h2⟩ | ⟨m, k, h1, _, _, _, _, h3⟩
 ·have e : ((toldP x (wholeP P)).word.toList == []) = true := by rw [h1, ByteArray.toList_eq]; rfl
  rw [if_pos e, told_poly]
  have hm : mayT (ofP (wholeP P)) = true := mayT_ofP (whole_can hP)
  rw [if_neg (by
   rintro (h | h)
   ·rw [hm] at h; cases h
   ·exact whole_ne h0 (List.length_eq_zero_iff.1 (by rw [← ofP_len, h]; rfl))), plainP_ofP (whole_can hP), whole_whole hP h0]
 ·rw [if_neg (by rw [words_ne h1]; exact Bool.false_ne_true)]
  unfold hitP at h3
  simp only [Bool.and_eq_true, decide_eq_true_eq, Bool.not_eq_true', List.isEmpty_eq_false_iff] at h3
  obtain ⟨⟨g1, g2⟩, g3⟩ := h3
  rw [if_neg (by simp [g1]), if_neg g2, g3]
theorem told_bounds (x : Lay) (p : PZ) : (toldP x p).word.size ≤ 1000 ∧ (toldP x p).pts.length ≤ 1000 := by
 rcases told_cases x p with ⟨h1, h2⟩ | ⟨m, k, h1, _, _, _, h3, _⟩
 ·rw [h1, h2]
  exact ⟨by decide, by decide⟩
 ·rw [h3, rowK_len]
  simp only [wordsL, List.mem_cons, List.not_mem_nil, or_false, Prod.mk.injEq] at h1
  rcases h1 with ⟨h1, h2⟩ | ⟨h1, h2⟩ | ⟨h1, h2⟩ | ⟨h1, h2⟩ <;> rw [h1, h2] <;> exact ⟨by decide, by decide⟩
end
section
open Go.RowKit
theorem contF_foldr (p : PZ) : ∀ g : Nat, p.foldl (fun g t => Nat.gcd g t.1.natAbs) g = Nat.gcd g (contN p) := by
 induction p with
 | nil => intro g; exact (Nat.gcd_zero_right g).symm
 | cons t r ih =>
  intro g
  show r.foldl _ (Nat.gcd g t.1.natAbs) = Nat.gcd g (Nat.gcd (contN r) t.1.natAbs)
  rw [ih, Nat.gcd_assoc, Nat.gcd_comm t.1.natAbs]
theorem contF_eq (p : PZ) : contF p = contN p := by
 unfold contF
 rw [contF_foldr, Nat.gcd_zero_left]
theorem sgF_eq (p : PZ) : sgF p = sgC p := by
 unfold sgF sgC
 cases p with
 | nil => rfl
 | cons t r => simp only [contF_eq]
theorem wholeF_eq (p : PZ) : wholeF p = wholeP p := by
 unfold wholeF wholeP
 rw [sgF_eq]
end
section
open Go.RowKit
theorem rz_whole {W : World} {v : Value} {p : PZ} {k n : Nat} (h : RV W v p) (fp : Fit k n p) (hk : k ≤ 90000) (hn : n ≤ 1000000000000) :
  Calls Tryz.prog 56 #[v] W fun e w' => ∃ v', e = .returned v' ∧ RV w' v' (wholeP p) ∧ Ext W w' :=
 (rpoly_wholeF (S := Old W) v p W h (fun _ h => h) (fit_szP fp (by omega) hn) (fun t ht => (fp.can.1 t ht).1)).mono (by
  rintro e w' ⟨v', rfl, h, hx⟩
  rw [wholeF_eq] at h
  exact ⟨v', rfl, h.to (Kept.refl _ _) (plus_old hx), hx⟩)
theorem ref_whole28n {W : World} {v : Value} {p : PZ} {k n : Nat} (h : PV W v p) (fp : Fit k n p) (hk : k ≤ 90000) (hn : n ≤ 1000000000000) :
  Calls Tryz.prog 23 #[v] W fun e w' => ∃ v', e = .returned v' ∧ Terms (New W w') w' v' (ofP (wholeP p)) ∧ Ext W w' := by
 have C1 := hid (rz_ofP h fp hk hn)
 have HF := hid fp
 clear h fp
 go_enter Tryz.func23, Tryz.ntmps23
 go_wp2_with fail
 with_reducible refine C1.out.mono ?_
 rintro e w1 ⟨v1, rfl, hp1, hx1⟩
 have C2 := hid (rz_whole hp1 HF.out hk hn)
 have HX1 := hid hx1
 clear hp1 hx1
 go_wp2_with fail
 with_reducible refine C2.out.mono ?_
 rintro e w2 ⟨v2, rfl, hp2, hx2⟩
 have C3 := hid (rpoly_poly (S := Old w2) v2 (wholeP p) w2 hp2 (fun _ h => h) (fit_szP HF.out.whole (by omega) hn) (fun t ht => Nat.le_trans (mayM_len (HF.out.whole.can.may t ht)) (by decide)))
 have HX2 := hid (HX1.out.trans hx2)
 clear hp2 hx2
 go_wp2_with fail
 with_reducible refine C3.out.mono ?_
 rintro e w3 ⟨v3, rfl, hp3, hx3⟩
 have HP3 := hid hp3
 have HX3 := hid (HX2.out.trans hx3)
 clear hp3 hx3
 go_wp2
 all_goals
  go_ret
  exact ⟨_, rfl, HP3.out.to (Kept.refl _ _) (fun k h => ⟨Nat.le_trans HX2.out.size h.1, h.2⟩), HX3.out⟩
theorem ref_whole28 {W : World} {v : Value} {p : PZ} {k n : Nat} (h : PV W v p) (fp : Fit k n p) (hk : k ≤ 90000) (hn : n ≤ 1000000000000) :
  Calls Tryz.prog 23 #[v] W fun e w' => ∃ v', e = .returned v' ∧ PV w' v' (wholeP p) ∧ Ext W w' :=
 (ref_whole28n h fp hk hn).mono (by
  rintro e w' ⟨v', rfl, h, hx⟩
  exact ⟨v', rfl, h.to (Kept.refl _ _) New.lt, hx⟩)
end
end Go.Proofs.YtbfflodidkfphaaGreat
