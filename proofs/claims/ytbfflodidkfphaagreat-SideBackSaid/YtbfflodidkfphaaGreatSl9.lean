/- A condition's polynomial: of spots that are known. How many points a condition's word asks: a map that is laid, filled and asked once. A condition's polynomial: of names in a layout. A condition's polynomial, the document's. A condition's polynomial of names, the document's. Has a polynomial a variable? The program's division: a step's term, and products with the head. The program's division: what is told behind a step. The program's division: one step. Pseudo-division, plain: what a whole division answers: the identity, degrees, how many steps; with a meter as without one. Pseudo-division of a product by one of its factors, plain: no rest; as many steps as the other factor has terms, at most. Pseudo-division, plain: powers, sizes of what is told, and how the statements' equations come about. The program's division: its beginning, all its steps, and what is told. The program's division: all its steps. The program's division, as it is asked. What layer 9's law knows. What layer 12's law knows. The document's division: all its steps. Layer 12's law: what is too great, the meters of both sides, powers, limbs. The program's powers, and how many limbs. Layer 12's law: the meters of both sides, of limits; none of both, if there are to be none; have both counted the same. Layer 12's statements: what is not too great, and the divisions of it. The arguments of the statements of layers 12 and 16 that are no polynomials: whole numbers, truths, limits. From the form's own reading of an argument to a layout: names, coordinates, two numbers. The document: a polynomial made whole. -/
import Derived.Carry
import Derived.WalkKit
import Derived.Maps.Own
import Derived.Maps.OwnOps
import Derived.Maps.Views
import Derived.StringKeys
import Derived.Deep.CutBlock
import Derived.Shelf.Abstract
import Derived.Maps.StringElems
import Derived.Test.YtbfflodidkfphaaGreatSl8
set_option maxRecDepth 100000
set_option maxHeartbeats 16000000
namespace Go.Proofs.YtbfflodidkfphaaGreat
section
open Go.RowKit
def wUnlike : ByteArray := { data := #[117, 110, 108, 105, 107, 101] }
def wApart : ByteArray := { data := #[97, 112, 97, 114, 116] }
def wCross : ByteArray := { data := #[99, 114, 111, 115, 115] }
def wDot : ByteArray := { data := #[100, 111, 116] }
theorem isUnlike {wd : ByteArray} (h : wd = wUnlike) : (wd.toList == [117, 110, 108, 105, 107, 101]) = true := by
 have e : wUnlike.toList = [117, 110, 108, 105, 107, 101] := by rw [ByteArray.toList_eq]; rfl
 rw [← e]; exact str_eq h
theorem noUnlike {wd : ByteArray} (h : wd ≠ wUnlike) : (wd.toList == [117, 110, 108, 105, 107, 101]) = false := by
 have e : wUnlike.toList = [117, 110, 108, 105, 107, 101] := by rw [ByteArray.toList_eq]; rfl
 rw [← e]; exact str_ne h
theorem isApart {wd : ByteArray} (h : wd = wApart) : (wd.toList == [97, 112, 97, 114, 116]) = true := by
 have e : wApart.toList = [97, 112, 97, 114, 116] := by rw [ByteArray.toList_eq]; rfl
 rw [← e]; exact str_eq h
theorem noApart {wd : ByteArray} (h : wd ≠ wApart) : (wd.toList == [97, 112, 97, 114, 116]) = false := by
 have e : wApart.toList = [97, 112, 97, 114, 116] := by rw [ByteArray.toList_eq]; rfl
 rw [← e]; exact str_ne h
theorem isCross {wd : ByteArray} (h : wd = wCross) : (wd.toList == [99, 114, 111, 115, 115]) = true := by
 have e : wCross.toList = [99, 114, 111, 115, 115] := by rw [ByteArray.toList_eq]; rfl
 rw [← e]; exact str_eq h
theorem noCross {wd : ByteArray} (h : wd ≠ wCross) : (wd.toList == [99, 114, 111, 115, 115]) = false := by
 have e : wCross.toList = [99, 114, 111, 115, 115] := by rw [ByteArray.toList_eq]; rfl
 rw [← e]; exact str_ne h
theorem isDot {wd : ByteArray} (h : wd = wDot) : (wd.toList == [100, 111, 116]) = true := by
 have e : wDot.toList = [100, 111, 116] := by rw [ByteArray.toList_eq]; rfl
 rw [← e]; exact str_eq h
theorem noDot {wd : ByteArray} (h : wd ≠ wDot) : (wd.toList == [100, 111, 116]) = false := by
 have e : wDot.toList = [100, 111, 116] := by rw [ByteArray.toList_eq]; rfl
 rw [← e]; exact str_ne h
def askW (wd : ByteArray) : Option Nat := if wd = wUnlike then some 2 else if wd = wApart then some 3 else if wd = wCross then some 4 else if wd = wDot then some 4 else none
def condP (wd : ByteArray) (cs : List (Int × Int)) : PZ :=
 if wd = wUnlike then dotP (cs.getD 0 (1, 1)) (cs.getD 1 (1, 1)) (cs.getD 0 (1, 1)) (cs.getD 1 (1, 1))
 else if wd = wApart then crossP (cs.getD 0 (1, 1)) (cs.getD 1 (1, 1)) (cs.getD 0 (1, 1)) (cs.getD 2 (1, 1))
 else if wd = wCross then crossP (cs.getD 0 (1, 1)) (cs.getD 1 (1, 1)) (cs.getD 2 (1, 1)) (cs.getD 3 (1, 1))
 else dotP (cs.getD 0 (1, 1)) (cs.getD 1 (1, 1)) (cs.getD 2 (1, 1)) (cs.getD 3 (1, 1))
theorem ok_getD {cs : List (Int × Int)} (h : ∀ c ∈ cs, Ok2 c) (j : Nat) : Ok2 (cs.getD j (1, 1)) := by
 rw [List.getD_eq_getElem?_getD]
 cases hj : cs[j]? with
 | none => exact ⟨by decide, by decide⟩
 | some c => exact h c (List.mem_of_getElem? hj)
theorem fit_cond {cs : List (Int × Int)} (wd : ByteArray) (h : ∀ c ∈ cs, Ok2 c) : Fit 10 8 (condP wd cs) := by
 have k := ok_getD h
 unfold condP
 split
 ·exact fit_dot (k _) (k _) (k _) (k _)
 ·split
  ·exact fit_cross (k _) (k _) (k _) (k _)
  ·split
   ·exact fit_cross (k _) (k _) (k _) (k _)
   ·exact fit_dot (k _) (k _) (k _) (k _)
theorem at_getD {cs : List (Int × Int)} {j : Nat} (h : j < cs.length) : cs[j]? = some (cs.getD j (1, 1)) := by
 rw [List.getD_eq_getElem?_getD, List.getElem?_eq_getElem h]; rfl
theorem spots_condition {W : World} {vs : Value} {cs : List (Int × Int)} (wd : ByteArray) (hs : Pows (Old W) W vs cs) (hok : ∀ c ∈ cs, Ok2 c) (hask : askW wd = some cs.length) :
  Calls Tryz.prog 90 #[vs, .string wd] W (Val1 W (condP wd cs)) := by
 have k := ok_getD hok
 obtain ⟨a, c, rfl⟩ := hs.form
 by_cases hUnlike : wd = wUnlike
 ·have hn : cs.length = 2 := by unfold askW at hask; rw [if_pos hUnlike] at hask; exact (Option.some.inj hask).symm
  have C := spots_dot (x0 := 0) (x1 := 0) (x2 := 1) (x3 := 0) (x4 := 1) hs (at_getD (j := 0) (by omega)) (at_getD (j := 1) (by omega)) (at_getD (j := 0) (by omega)) (at_getD (j := 1) (by omega)) (k _) (k _) (k _) (k _) rfl rfl rfl rfl
  have e : condP wd cs = dotP (cs.getD 0 (1, 1)) (cs.getD 1 (1, 1)) (cs.getD 0 (1, 1)) (cs.getD 1 (1, 1)) := by unfold condP; rw [if_pos hUnlike]
  rw [e]
  have qUnlike := isUnlike hUnlike
  clear hUnlike
  have HC := hid C
  unfold Val1 at HC ⊢
  clear hs hok hask k hn C e
  go_enter Tryz.func90, Tryz.ntmps90
  go_wp2_with fail
  with_reducible refine HC.out.mono ?_
  rintro e w1 ⟨v1, rfl, hp1, hx1⟩
  have HX1 := hid hx1
  have HP1 := hid hp1
  clear hx1 hp1
  go_wp2
  all_goals
   go_ret
   exact ⟨_, rfl, HP1.out, HX1.out⟩
 ·by_cases hApart : wd = wApart
  ·have hn : cs.length = 3 := by unfold askW at hask; rw [if_neg hUnlike, if_pos hApart] at hask; exact (Option.some.inj hask).symm
   have C := spots_cross (x0 := 0) (x1 := 0) (x2 := 1) (x3 := 0) (x4 := 2) hs (at_getD (j := 0) (by omega)) (at_getD (j := 1) (by omega)) (at_getD (j := 0) (by omega)) (at_getD (j := 2) (by omega)) (k _) (k _) (k _) (k _) rfl rfl rfl rfl
   have e : condP wd cs = crossP (cs.getD 0 (1, 1)) (cs.getD 1 (1, 1)) (cs.getD 0 (1, 1)) (cs.getD 2 (1, 1)) := by unfold condP; rw [if_neg hUnlike, if_pos hApart]
   rw [e]
   have qUnlike := noUnlike hUnlike
   have qApart := isApart hApart
   clear hUnlike hApart
   have HC := hid C
   unfold Val1 at HC ⊢
   clear hs hok hask k hn C e
   go_enter Tryz.func90, Tryz.ntmps90
   go_wp2_with fail
   with_reducible refine HC.out.mono ?_
   rintro e w1 ⟨v1, rfl, hp1, hx1⟩
   have HX1 := hid hx1
   have HP1 := hid hp1
   clear hx1 hp1
   go_wp2
   all_goals
    go_ret
    exact ⟨_, rfl, HP1.out, HX1.out⟩
  ·by_cases hCross : wd = wCross
   ·have hn : cs.length = 4 := by unfold askW at hask; rw [if_neg hUnlike, if_neg hApart, if_pos hCross] at hask; exact (Option.some.inj hask).symm
    have C := spots_cross (x0 := 0) (x1 := 0) (x2 := 1) (x3 := 2) (x4 := 3) hs (at_getD (j := 0) (by omega)) (at_getD (j := 1) (by omega)) (at_getD (j := 2) (by omega)) (at_getD (j := 3) (by omega)) (k _) (k _) (k _) (k _) rfl rfl rfl rfl
    have e : condP wd cs = crossP (cs.getD 0 (1, 1)) (cs.getD 1 (1, 1)) (cs.getD 2 (1, 1)) (cs.getD 3 (1, 1)) := by unfold condP; rw [if_neg hUnlike, if_neg hApart, if_pos hCross]
    rw [e]
    have qUnlike := noUnlike hUnlike
    have qApart := noApart hApart
    have qCross := isCross hCross
    clear hUnlike hApart hCross
    have HC := hid C
    unfold Val1 at HC ⊢
    clear hs hok hask k hn C e
    go_enter Tryz.func90, Tryz.ntmps90
    go_wp2_with fail
    with_reducible refine HC.out.mono ?_
    rintro e w1 ⟨v1, rfl, hp1, hx1⟩
    have HX1 := hid hx1
    have HP1 := hid hp1
    clear hx1 hp1
    go_wp2
    all_goals
     go_ret
     exact ⟨_, rfl, HP1.out, HX1.out⟩
   ·have hDot : wd = wDot := by
     unfold askW at hask
     rw [if_neg hUnlike, if_neg hApart, if_neg hCross] at hask
     by_cases h : wd = wDot
     ·exact h
     ·rw [if_neg h] at hask; cases hask
    have hn : cs.length = 4 := by unfold askW at hask; rw [if_neg hUnlike, if_neg hApart, if_neg hCross, if_pos hDot] at hask; exact (Option.some.inj hask).symm
    have C := spots_dot (x0 := 0) (x1 := 0) (x2 := 1) (x3 := 2) (x4 := 3) hs (at_getD (j := 0) (by omega)) (at_getD (j := 1) (by omega)) (at_getD (j := 2) (by omega)) (at_getD (j := 3) (by omega)) (k _) (k _) (k _) (k _) rfl rfl rfl rfl
    have e : condP wd cs = dotP (cs.getD 0 (1, 1)) (cs.getD 1 (1, 1)) (cs.getD 2 (1, 1)) (cs.getD 3 (1, 1)) := by unfold condP; rw [if_neg hUnlike, if_neg hApart, if_neg hCross]
    rw [e]
    have qUnlike := noUnlike hUnlike
    have qApart := noApart hApart
    have qCross := noCross hCross
    clear hUnlike hApart hCross hDot
    have HC := hid C
    unfold Val1 at HC ⊢
    clear hs hok hask k hn C e
    go_enter Tryz.func90, Tryz.ntmps90
    go_wp2_with fail
    with_reducible refine HC.out.mono ?_
    rintro e w1 ⟨v1, rfl, hp1, hx1⟩
    have HX1 := hid hx1
    have HP1 := hid hp1
    clear hx1 hp1
    go_wp2
    all_goals
     go_ret
     exact ⟨_, rfl, HP1.out, HX1.out⟩
end
section
open Go.RowKit Go.Maps Go.WideMaps Go.WideShapes
def keyS (x : ByteArray) : Lit := .string x.data.toList
def d4 : DataW Unit := ((((DataW.map []).put (keyS wUnlike) (.lit (.int .i64 2))).put (keyS wApart) (.lit (.int .i64 3))).put (keyS wCross) (.lit (.int .i64 4))).put (keyS wDot) (.lit (.int .i64 4))
theorem keyS_inj {x y : ByteArray} (h : x ≠ y) : keyS x ≠ keyS y := fun e => h (by
 unfold keyS at e
 injection e with e
 exact ByteArray.ext (Array.toList_inj.mp e))
theorem keyS_key (x : ByteArray) : WideAt.IsKeyLit (keyS x) := trivial
theorem d4_at (wd : ByteArray) (zd : DataW Unit) : d4.atKey (keyS wd) zd = match askW wd with | some n => .lit (.int .i64 (n : Int)) | none => zd := by
 unfold d4 askW
 have i0 : IsMap (DataW.map [] : DataW Unit) := isMap_empty
 by_cases h1 : wd = wUnlike
 ·rw [if_pos h1, atKey_put_other (keyS_inj (by rw [h1]; decide)), atKey_put_other (keyS_inj (by rw [h1]; decide)), atKey_put_other (keyS_inj (by rw [h1]; decide)), h1, atKey_put_same i0 (keyS_key _)]; rfl
 ·by_cases h2 : wd = wApart
  ·rw [if_neg h1, if_pos h2, atKey_put_other (keyS_inj (by rw [h2]; decide)), atKey_put_other (keyS_inj (by rw [h2]; decide)), h2, atKey_put_same (i0.put _ _) (keyS_key _)]; rfl
  ·by_cases h3 : wd = wCross
   ·rw [if_neg h1, if_neg h2, if_pos h3, atKey_put_other (keyS_inj (by rw [h3]; decide)), h3, atKey_put_same ((i0.put _ _).put _ _) (keyS_key _)]; rfl
   ·by_cases h4 : wd = wDot
    ·rw [if_neg h1, if_neg h2, if_neg h3, if_pos h4, h4, atKey_put_same (((i0.put _ _).put _ _).put _ _) (keyS_key _)]; rfl
    ·rw [if_neg h1, if_neg h2, if_neg h3, if_neg h4, atKey_put_other (keyS_inj h4), atKey_put_other (keyS_inj h3), atKey_put_other (keyS_inj h2), atKey_put_other (keyS_inj h1)]; rfl
def askI (wd : ByteArray) : Int := match askW wd with | some n => (n : Int) | none => 0
theorem ask_run (W : World) (b : Nat) (hb : b = W.heap.size) : ∃ m1 m2 m3 m4,
  (Instr.mapUpdate 74 (.map (some b)) (.string { data := #[117, 110, 108, 105, 107, 101] }) (.int .i64 2)).run Tryz.prog (W.alloc (.map #[] 0)) = .ok () m1 ∧
  (Instr.mapUpdate 74 (.map (some b)) (.string { data := #[97, 112, 97, 114, 116] }) (.int .i64 3)).run Tryz.prog m1 = .ok () m2 ∧
  (Instr.mapUpdate 74 (.map (some b)) (.string { data := #[99, 114, 111, 115, 115] }) (.int .i64 4)).run Tryz.prog m2 = .ok () m3 ∧
  (Instr.mapUpdate 74 (.map (some b)) (.string { data := #[100, 111, 116] }) (.int .i64 4)).run Tryz.prog m3 = .ok () m4 ∧
  (∀ wd : ByteArray, wd.size ≤ maxLen → (Instr.lookup 74 (.map (some b)) (.string wd) true).run Tryz.prog m4 = .ok (.tuple #[.int .i64 (askI wd), .bool (askW wd).isSome]) m4) ∧ Ext W m4 := by
 subst hb
 have K : Keyed Tryz.prog 9 := string_keyed Tryz.underlying9
 have h0 := World.ownsMap_made (H := Unit) W Tryz.prog 9 (plainElem Tryz.prog 3)
 have sz : ∀ wd : ByteArray, wd.size ≤ maxLen → keyOf Tryz.prog 9 (.string wd) = some (keyS wd) := fun wd h => keyOf_string_mk Tryz.underlying9 h
 have e2 : plainElem (H := Unit) Tryz.prog 3 (.int .i64 2) = some (.lit (.int .i64 2), []) := plainElem_int Tryz.underlying3 (by decide)
 have e3 : plainElem (H := Unit) Tryz.prog 3 (.int .i64 3) = some (.lit (.int .i64 3), []) := plainElem_int Tryz.underlying3 (by decide)
 have e4 : plainElem (H := Unit) Tryz.prog 3 (.int .i64 4) = some (.lit (.int .i64 4), []) := plainElem_int Tryz.underlying3 (by decide)
 obtain ⟨m1, r1, o1, g1⟩ := h0.update K Tryz.underlying74 (by decide) (sz wUnlike (by decide)) e2
 obtain ⟨m2, r2, o2, g2⟩ := o1.update K Tryz.underlying74 (by decide) (sz wApart (by decide)) e3
 obtain ⟨m3, r3, o3, g3⟩ := o2.update K Tryz.underlying74 (by decide) (sz wCross (by decide)) e4
 obtain ⟨m4, r4, o4, g4⟩ := o3.update K Tryz.underlying74 (by decide) (sz wDot (by decide)) e4
 have hz : (zeroValue 3).run Tryz.prog m4 = .ok (.int .i64 0) m4 := Tryz.zeroValue3 _
 refine ⟨m1, m2, m3, m4, r1, r2, r3, r4, fun wd hwd => ?_, ?_⟩
 ·obtain ⟨es, clock, hb, F, -, hD⟩ := o4
  have hat := d4_at wd
  rw [show d4 = _ from hD] at hat
  unfold askI
  rcases Maps.fit_look true K Tryz.underlying74 hz hb F (sz wd hwd) with ⟨hrun, -, h⟩ | ⟨e0, y, -, -, hrun, hR, h, -⟩
  ·cases ha : askW wd with
   | none => exact hrun
   | some n =>
    have k := (h .nil).symm.trans (hat .nil)
    rw [ha] at k
    cases k
  ·cases ha : askW wd with
   | none =>
    have k := fun zd => (h zd).symm.trans (hat zd)
    simp only [ha] at k
    have k1 := (k .nil).symm.trans (k (.lit (.bool true)))
    cases k1
   | some n =>
    have k := (h .nil).symm.trans (hat .nil)
    simp only [ha] at k
    obtain ⟨c, hc, hy, -⟩ := plainElem_int_inv Tryz.underlying3 hR
    rw [hy] at k
    have : c = (n : Int) := by simpa using k
    rw [hrun, hc, this]
    rfl
 ·have k : Ext W (W.alloc (.map #[] 0)) := Ext.alloc (Ext.refl W) _
  have q : ∀ {A B : World}, Ext W A → A.grownBy B (some W.heap.size) → Ext W B := fun h g => h.grown g h.size (fun k e => by cases e; exact Nat.le_refl _)
  exact q (q (q (q k g1) g2) g3) g4
end
section
open Go.RowKit
structure Lay where
 pts : List ByteArray
 ats : List (Int × Int)
 par : Int
 vrs : Int
def LayV (S : Nat → Prop) (W : World) (v : Value) (x : Lay) : Prop := ∃ vp va, v = .agg #[vp, va, .int .i64 x.par, .int .i64 x.vrs] ∧ Strs S W vp x.pts ∧ Pows S W va x.ats
theorem LayV.on {W Y : World} {v : Value} {x : Lay} (h : LayV (Old W) W v x) (hx : Ext W Y) : LayV (Old Y) Y v x := by
 obtain ⟨vp, va, e, h1, h2⟩ := h
 exact ⟨vp, va, e, h1.to (Kept.ext hx (fun _ h => h)) (old_lt hx), h2.on hx⟩
def placeS (x : Lay) (nm : ByteArray) : Option (Int × Int) := (posS x.pts nm).bind fun i => x.ats[i]?
def placesS (x : Lay) : List ByteArray → Option (List (Int × Int))
 | [] => some []
 | n :: r => match placeS x n, placesS x r with
  | some c, some l => some (c :: l)
  | _, _ => none
theorem placesS_snoc (x : Lay) (n : ByteArray) : ∀ l : List ByteArray, placesS x (l ++ [n]) = match placesS x l, placeS x n with
  | some l, some c => some (l ++ [c])
  | _, _ => none
 | [] => by
  show (match placeS x n, some [] with | some c, some l => some (c :: l) | _, _ => none) = _
  cases placeS x n <;> rfl
 | m :: r => by
  have ih := placesS_snoc x n r
  show (match placeS x m, placesS x (r ++ [n]) with | some c, some l => some (c :: l) | _, _ => none) = match (match placeS x m, placesS x r with | some c, some l => some (c :: l) | _, _ => none), placeS x n with | some l, some c => some (l ++ [c]) | _, _ => none
  rw [ih]
  cases placeS x m <;> cases placesS x r <;> cases placeS x n <;> rfl
theorem placesS_len {x : Lay} : ∀ {l : List ByteArray} {cs : List (Int × Int)}, placesS x l = some cs → cs.length = l.length
 | [], cs, h => by obtain rfl : [] = cs := by simpa [placesS] using h
                   rfl
 | m :: r, cs, h => by
  unfold placesS at h
  cases hm : placeS x m with
  | none => rw [hm] at h; cases h
  | some c =>
   cases hr : placesS x r with
   | none => rw [hm, hr] at h; cases h
   | some l =>
    rw [hm, hr] at h
    obtain rfl : c :: l = cs := by simpa using h
    simp [placesS_len hr]
theorem placesS_mem {x : Lay} : ∀ {l : List ByteArray} {cs : List (Int × Int)}, placesS x l = some cs → ∀ c ∈ cs, c ∈ x.ats
 | [], cs, h => by obtain rfl : [] = cs := by simpa [placesS] using h
                   simp
 | m :: r, cs, h => by
  unfold placesS at h
  cases hm : placeS x m with
  | none => rw [hm] at h; cases h
  | some c =>
   cases hr : placesS x r with
   | none => rw [hm, hr] at h; cases h
   | some l =>
    rw [hm, hr] at h
    obtain rfl : c :: l = cs := by simpa using h
    intro d hd
    rcases List.mem_cons.1 hd with rfl | hd
    ·unfold placeS at hm
     obtain ⟨i, -, hi⟩ := Option.bind_eq_some_iff.1 hm
     exact List.mem_of_getElem? hi
    ·exact placesS_mem hr d hd
def condX (x : Lay) (wd : ByteArray) (names : List ByteArray) : Int × PZ := match askW wd, placesS x names with
 | some n, some cs => if names.length = n then (0, condP wd cs) else (13, [])
 | _, _ => (5, [])
theorem Tryz.infoCoord : (Tryz.prog.info? 87).map (fun i => (i.zero, i.size, i.bytes)) = some (some (.agg #[.int .i64 0, .int .i64 0]), 2, 16) := by kernel_rfl
theorem blk_new4 (W : World) (v0 v1 v2 v3 : Value) (T : TypeId) {Y : World} (h : Ext (W.alloc (.cells #[v0, v1, v2, v3] T)) Y) : Y.cell? ⟨W.heap.size, 0, none⟩ = some v0 ∧ Y.cell? ⟨W.heap.size, 1, none⟩ = some v1 :=
 ⟨h.cell (cell_new W _ _ rfl rfl), h.cell (cell_new W _ _ rfl rfl)⟩
theorem hypo_condition {W : World} {v vn : Value} {x : Lay} {wd : ByteArray} {names : List ByteArray} (hx : LayV (Old W) W v x) (hok : ∀ c ∈ x.ats, Ok2 c) (hn : Strs (Old W) W vn names) (hw : wd.size ≤ 1000) (hnl : names.length ≤ 1000) :
  Calls Tryz.prog 53 #[v, .string wd, vn] W fun e w' => ∃ v', e = .returned (.tuple #[v', .int .i64 (condX x wd names).1]) ∧ Terms (New W w') w' v' (ofP (condX x wd names).2) ∧ Ext W w' := by
 have hnot : ∀ (x : Bool) (w : World), (Op.unary .not (.bool x)).run Tryz.prog w = .ok (.bool (!x)) w := fun _ _ => rfl
 obtain ⟨vp, va, rfl, hp, ha⟩ := hx
 have HP := hid hp
 have HA := hid ha
 have HN := hid hn
 have HOK := hid hok
 have hlp := hp.len_le
 have hla := ha.len_le
 obtain ⟨ap, cp, rfl⟩ := hp.form
 obtain ⟨aa, ca, rfl⟩ := ha.form
 obtain ⟨an, cn, rfl⟩ := hn.form
 obtain ⟨n, hnn⟩ : ∃ n, n = names.length := ⟨_, rfl⟩
 obtain ⟨np, hnp⟩ : ∃ n, n = x.pts.length := ⟨_, rfl⟩
 obtain ⟨na, hna⟩ : ∃ n, n = x.ats.length := ⟨_, rfl⟩
 rw [← hnn] at HN hnl ⊢
 rw [← hnp] at HP hlp ⊢
 rw [← hna] at HA hla ⊢
 have HNN := hid hnn
 have HNA := hid hna
 have hmm := @run_makeMap Tryz.prog
 obtain ⟨m1, m2, m3, m4, r1, r2, r3, r4, hlk, hx4⟩ := ask_run (W.alloc (.cells #[.slice ap np cp, .slice aa na ca, .int .i64 x.par, .int .i64 x.vrs] 35)) (W.heap.size + 1) (by rw [size_alloc])
 have r5 := hlk wd (by unfold maxLen; omega)
 have HB := hid (fun (Y : World) (hY : Ext m4 Y) => blk_new4 W _ _ _ _ _ (hx4.trans hY))
 have HX4 : Hid (Ext W m4) := hid (((Ext.refl W).alloc _).trans hx4)
 clear hp ha hn hok hnn hnp hna hlk hx4 hw
 obtain ⟨q, hq⟩ : ∃ q, q = askI wd := ⟨_, rfl⟩
 obtain ⟨ok0, hok0⟩ : ∃ q, q = (askW wd).isSome := ⟨_, rfl⟩
 rw [← hq, ← hok0] at r5
 have HQ := hid hq
 have HOK0 := hid hok0
 clear hq hok0
 go_enter Tryz.func53, Tryz.ntmps53
 go_wp2
 clear r1 r2 r3 r4 r5
 go_loopw [9, 10, 23] (fun okv s i wr => ∃ (k : Nat) (ok : Bool) (cs : List (Int × Int)), k ≤ n ∧ i = .int .i64 k ∧ okv = .bool ok ∧ Hid (ok = true → ok0 = true ∧ placesS x (names.take k) = some cs) ∧ Hid (ok = false → ok0 = false ∨ placesS x (names.take k) = none) ∧ Hid (wr.ownsRow m4.heap.size 87 2 s cs.length (flatP cs)) ∧ Ext m4 wr ∧ Hid (cs.length ≤ k)) (fun _ _ i _ => n - (intOf i).toNat)
 case atStart => exact ⟨0, ok0, [], Nat.zero_le _, rfl, rfl, hid (fun h => ⟨h, rfl⟩), hid (fun h => .inl h), hid (World.ownsRow_nil _ _ _ _), Ext.refl _, hid (Nat.le_refl _)⟩
 case round =>
  obtain ⟨k, ok, cs, hk, rfl, rfl, HT, HF, HO, hxr, HCL⟩ := hrel
  have HX := hid hxr
  obtain ⟨c0, c1⟩ := HB.out _ hxr
  by_cases hlt : k < n
  ·obtain ⟨nm, hnm⟩ := some_of_lt (l := names) (j := k) (by rw [← HNN.out]; exact hlt)
   obtain ⟨b1, o1, rfl, -, hq1, hq2, -, hq3⟩ := (HN.out.to (Kept.ext (HX4.out.trans hxr) (fun _ h => h)) (old_lt (HX4.out.trans hxr))).cellAt hnm
   have HTK : Hid (names.take (k + 1) = names.take k ++ [nm]) := hid (by rw [List.take_add_one, hnm]; rfl)
   have HIX := hid (index_str (S := Old wr) (HP.out.to (Kept.ext (HX4.out.trans hxr) (fun _ h => h)) (old_lt (HX4.out.trans hxr))) nm (fun _ h => h))
   clear hnm hxr
   go_wp2_with fail
   with_reducible refine HIX.out.mono ?_
   rintro e w1 ⟨rfl, hx1⟩
   have HX1 := hid (HX.out.trans hx1)
   have HX1' := hid hx1
   obtain ⟨d0, d1⟩ := HB.out _ HX1.out
   have HO1 : Hid (w1.ownsRow m4.heap.size 87 2 _ cs.length (flatP cs)) := hid (own_ext HO.out hx1)
   clear hx1 c0 c1 hq3
   cases ok with
   | false =>
    have HF2 : Hid (ok0 = false ∨ placesS x (names.take (k + 1)) = none) := hid (by
     rcases HF.out rfl with h | h
     ·exact .inl h
     ·refine .inr ?_
      rw [HTK.out, placesS_snoc, h])
    go_wp2
    go_roundw
    case rel => exact ⟨k + 1, false, cs, by omega, by go_num, rfl, hid (fun h => by cases h), hid (fun _ => HF2.out), HO1, HX1.out, hid (by have := HCL.out; omega)⟩
    case measure => simp only [intOf]; omega
   | true =>
    have HT2 := hid (HT.out rfl)
    clear HT HF
    cases hps : posS x.pts nm with
    | none =>
     have hI : idxI x.pts nm = -1 := by unfold idxI; rw [hps]
     rw [hI]
     have HF2 : Hid (placesS x (names.take (k + 1)) = none) := hid (by
      rw [HTK.out, placesS_snoc]
      unfold placeS
      rw [hps]
      cases placesS x (names.take k) <;> rfl)
     clear hI hps
     go_wp2
     go_roundw
     case rel => exact ⟨k + 1, false, cs, by omega, by go_num, rfl, hid (fun h => by cases h), hid (fun _ => .inr HF2.out), HO1, HX1.out, hid (by have := HCL.out; omega)⟩
     case measure => simp only [intOf]; omega
    | some i =>
     have hI : idxI x.pts nm = (i : Int) := by unfold idxI; rw [hps]
     rw [hI]
     have hi0 : (0 : Int) ≤ (i : Int) := by omega
     by_cases hia : i < na
     ·obtain ⟨c, hc⟩ := some_of_lt (l := x.ats) (j := i) (by rw [← HNA.out]; exact hia)
      obtain ⟨b2, o2, rfl, -, hq4, hq5, -, -, z0, z1⟩ := (HA.out.on (HX4.out.trans HX1.out)).cellAt hc
      have HPL : Hid (placesS x (names.take (k + 1)) = some (cs ++ [c])) := hid (by
       rw [HTK.out, placesS_snoc, HT2.out.2]
       unfold placeS
       rw [hps, Option.bind_some, hc])
      obtain ⟨u, z⟩ := c
      simp only at z0 z1 HPL
      have HDL : Hid (cs.length ≤ 1000000000) := hid (by have := HCL.out; omega)
      have HBS2 : Hid (m4.heap.size ≤ w1.heap.size) := hid HX1.out.size
      have hd : decide (i < na) = true := decide_eq_true hia
      clear hI hps hc
      go_wp2_with (at_builtin; refine wpList_append_new _ rfl (.tmp 44) (.tmp 50) 140 rfl m4.heap.size 87 (.agg #[.int .i64 0, .int .i64 0]) 2 16 Tryz.underlying140 Tryz.infoCoord rfl (by decide) _ _ _ rfl HO1.out #[.int .i64 u, .int .i64 z] rfl (pow_cells _ _) rfl HDL.out (by decide) HBS2.out ?_; intro v1 w2 hown hg _; have HOW := hid hown; have HG := hid hg; clear hown hg)
      go_roundw
      case rel =>
       refine ⟨k + 1, true, cs ++ [(u, z)], by omega, by go_num, rfl, hid (fun _ => ⟨HT2.out.1, HPL.out⟩), hid (fun h => by cases h), hid ?_, own_grown0 HX1.out HO1.out HG.out, hid (by have := HCL.out; rw [List.length_append, List.length_singleton]; omega)⟩
       rw [flatP_append, List.length_append]
       have h1 := HOW.out
       simpa [flatP] using h1
      case measure => simp only [intOf]; omega
     ·have HF2 : Hid (placesS x (names.take (k + 1)) = none) := hid (by
       rw [HTK.out, placesS_snoc]
       unfold placeS
       rw [hps, Option.bind_some, List.getElem?_eq_none (by rw [← HNA.out]; omega)]
       cases placesS x (names.take k) <;> rfl)
      have hd : decide (i < na) = false := decide_eq_false hia
      clear hI hps hia
      go_wp2
      go_roundw
      case rel => exact ⟨k + 1, false, cs, by omega, by go_num, rfl, hid (fun h => by cases h), hid (fun _ => .inr HF2.out), HO1, HX1.out, hid (by have := HCL.out; omega)⟩
      case measure => simp only [intOf]; omega
  ·obtain rfl : n = k := by omega
   have HTN : Hid (names.take n = names) := hid (by rw [HNN.out]; exact List.take_length)
   cases ok with
   | false =>
    have HE : Hid (condX x wd names = (5, [])) := hid (by
     unfold condX
     rcases HF.out rfl with h | h
     ·rw [HOK0.out] at h
      cases ha : askW wd with
      | none => rfl
      | some q => rw [ha] at h; cases h
     ·rw [HTN.out] at h
      rw [h]
      cases askW wd <;> rfl)
    clear hxr
    go_wp2
    all_goals
     go_ret2
     rw [HE.out]
     exact ⟨_, rfl, Terms.nilv _ _ _ _ (by decide), HX4.out.trans HX.out⟩
   | true =>
    have HPS : Hid (placesS x names = some cs) := hid (by have h := (HT.out rfl).2; rwa [HTN.out] at h)
    obtain ⟨a, HAW⟩ : ∃ a, Hid (askW wd = some a) := by
     have h := (HT.out rfl).1
     rw [HOK0.out] at h
     cases ha : askW wd with
     | none => rw [ha] at h; cases h
     | some a => exact ⟨a, hid rfl⟩
    have hqa : q = (a : Int) := by rw [HQ.out]; unfold askI; rw [HAW.out]
    subst hqa
    by_cases hna : n = a
    ·have HE : Hid (condX x wd names = (0, condP wd cs)) := hid (by
      unfold condX
      rw [HAW.out, HPS.out]
      exact if_pos (by rw [← HNN.out]; exact hna))
     have hcl := placesS_len HPS.out
     have hsp := (own_pows HO.out (fun c hc => by have h := HOK.out c (placesS_mem HPS.out c hc); unfold Ok2 at h; unfold inI64; omega)).to (S' := Old wr) (Kept.refl _ _) (fun _ h => h.2)
     have CC := hid (spots_condition wd hsp (fun c hc => HOK.out c (placesS_mem HPS.out c hc)) (by rw [HAW.out, hcl, ← HNN.out, hna]))
     unfold Val1 at CC
     have qe : ((n : Int) != (a : Int)) = false := by rw [hna]; simp
     obtain ⟨a2, c2, hsf⟩ := hsp.form
     subst hsf
     clear hxr hcl hsp
     go_wp2_with fail
     with_reducible refine CC.out.mono ?_
     rintro e w2 ⟨v2, rfl, hp2, hx2⟩
     have HP2 := hid (hp2.to (S' := New W w2) (Kept.refl _ _) (New.mono (HX4.out.trans HX.out)))
     have HX2 := hid ((HX4.out.trans HX.out).trans hx2)
     clear hp2 hx2
     go_wp2
     all_goals
      go_ret2
      rw [HE.out]
      exact ⟨_, rfl, HP2.out, HX2.out⟩
    ·have HE : Hid (condX x wd names = (13, [])) := hid (by
      unfold condX
      rw [HAW.out, HPS.out]
      exact if_neg (by rw [← HNN.out]; exact hna))
     have qe : ((n : Int) != (a : Int)) = true := by rw [bne_iff_ne]; omega
     clear hxr hna
     go_wp2
     all_goals
      go_ret2
      rw [HE.out]
      exact ⟨_, rfl, Terms.nilv _ _ _ _ (by decide), HX4.out.trans HX.out⟩
end
section
open Go.RowKit
def placeI (x : Lay) (nm : ByteArray) : Int := match posS x.pts nm with
 | some i => if i < x.ats.length then (i : Int) else -1
 | none => -1
theorem ref_place {W : World} {v : Value} {x : Lay} (hx : LayV (Old W) W v x) (nm : ByteArray) :
  Calls Tryz.prog 48 #[v, .string nm] W fun e w' => e = .returned (.int .i64 (placeI x nm)) ∧ Ext W w' := by
 obtain ⟨vp, va, rfl, hp, ha⟩ := hx
 have HP := hid hp
 have hlp := hp.len_le
 have hla := ha.len_le
 obtain ⟨ap, cp, rfl⟩ := hp.form
 obtain ⟨aa, ca, rfl⟩ := ha.form
 obtain ⟨np, hnp⟩ : ∃ n, n = x.pts.length := ⟨_, rfl⟩
 obtain ⟨na, hna⟩ : ∃ n, n = x.ats.length := ⟨_, rfl⟩
 rw [← hnp] at HP hlp ⊢
 rw [← hna] at hla ⊢
 have HNP := hid hnp
 have HNA := hid hna
 have HB := hid (fun (Y : World) (hY : Ext (W.alloc (.cells #[.slice ap np cp, .slice aa na ca, .int .i64 x.par, .int .i64 x.vrs] 35)) Y) => blk_new4 W (.slice ap np cp) (.slice aa na ca) (.int .i64 x.par) (.int .i64 x.vrs) 35 hY)
 have HX0 := hid (Ext.alloc (Ext.refl W) (.cells #[.slice ap np cp, .slice aa na ca, .int .i64 x.par, .int .i64 x.vrs] 35))
 obtain ⟨w0, hw0⟩ : ∃ Y, Y = W.alloc (.cells #[.slice ap np cp, .slice aa na ca, .int .i64 x.par, .int .i64 x.vrs] 35) := ⟨_, rfl⟩
 rw [← hw0] at HB HX0
 clear hp ha hnp hna
 go_enter Tryz.func48, Tryz.ntmps48
 go_wp2
 rw [← hw0]
 clear hw0
 go_loopw [5] (fun i wr => ∃ k : Nat, k ≤ np ∧ i = .int .i64 k ∧ Ext w0 wr ∧ Hid (∀ y ∈ x.pts.take k, y ≠ nm)) (fun i _ => np - (intOf i).toNat)
 case atStart => exact ⟨0, Nat.zero_le _, rfl, Ext.refl _, fun y hy => by simp at hy⟩
 case round =>
  obtain ⟨k, hk, rfl, hxr, HE⟩ := hrel
  have HX := hid hxr
  obtain ⟨c0, c1⟩ := HB.out _ hxr
  by_cases hlt : k < np
  ·obtain ⟨y, hy⟩ := some_of_lt (l := x.pts) (j := k) (by rw [← HNP.out]; exact hlt)
   obtain ⟨b1, o1, rfl, -, hq1, hq2, -, hq3⟩ := (HP.out.to (Kept.ext (HX0.out.trans hxr) (fun _ h => h)) (old_lt (HX0.out.trans hxr))).cellAt hy
   have HY := hid hy
   clear hy hxr
   by_cases he : y = nm
   ·have q1 := str_eq he
    have HPS : Hid (posS x.pts nm = some k) := hid (posS_hit (by rw [HY.out, he]) HE.out)
    clear he
    by_cases hkn : k < na
    ·have HI : Hid (placeI x nm = (k : Int)) := hid (by unfold placeI; rw [HPS.out]; exact if_pos (by rw [← HNA.out]; exact hkn))
     have q2 : decide (k < na) = true := decide_eq_true hkn
     go_wp2
     all_goals
      go_ret
      exact ⟨by rw [HI.out]; rfl, HX0.out.trans HX.out⟩
    ·have HI : Hid (placeI x nm = -1) := hid (by unfold placeI; rw [HPS.out]; exact if_neg (by rw [← HNA.out]; exact hkn))
     have q2 : decide (k < na) = false := decide_eq_false hkn
     clear hkn
     go_wp2
     all_goals
      go_ret
      exact ⟨by rw [HI.out]; rfl, HX0.out.trans HX.out⟩
   ·have q1 := str_ne he
    have H0 := hid he
    clear he
    go_wp2
    go_roundw
    case rel => exact ⟨k + 1, by omega, by go_num, HX.out, fun z hz => by
     rw [List.take_add_one, HY.out] at hz
     rcases List.mem_append.1 hz with hz | hz
     ·exact HE.out z hz
     ·have : z = y := by simpa using hz
      rw [this]; exact H0.out⟩
    case measure => simp only [intOf]; omega
  ·obtain rfl : np = k := by omega
   have HI : Hid (placeI x nm = -1) := hid (by
    have h := HE.out
    rw [List.take_of_length_le (by rw [← HNP.out]; exact Nat.le_refl _)] at h
    unfold placeI; rw [posS_miss h])
   clear hxr
   go_wp2
   all_goals
    go_ret
    exact ⟨by rw [HI.out]; rfl, HX0.out.trans HX.out⟩
theorem place_eq (x : Lay) (nm : ByteArray) : (placeI x nm = -1 ∧ placeS x nm = none) ∨ ∃ (i : Nat) (c : Int × Int), placeI x nm = (i : Int) ∧ x.ats[i]? = some c ∧ placeS x nm = some c := by
 unfold placeI placeS
 cases h : posS x.pts nm with
 | none => exact .inl ⟨rfl, rfl⟩
 | some i =>
  by_cases hi : i < x.ats.length
  ·obtain ⟨c, hc⟩ := some_of_lt hi
   exact .inr ⟨i, c, if_pos hi, hc, by rw [Option.bind_some, hc]⟩
  ·exact .inl ⟨if_neg hi, by rw [Option.bind_some, List.getElem?_eq_none (by omega)]⟩
end
section
open Go.RowKit
theorem condX_at {x : Lay} {wd : ByteArray} {names : List ByteArray} {a : Nat} {cs : List (Int × Int)} (h1 : askW wd = some a) (h2 : placesS x names = some cs) : condX x wd names = if names.length = a then (0, condP wd cs) else (13, []) := by
 unfold condX; rw [h1, h2]
theorem condX_no {x : Lay} {wd : ByteArray} {names : List ByteArray} (h2 : placesS x names = none) : condX x wd names = (5, []) := by
 unfold condX; rw [h2]; cases askW wd <;> rfl
theorem placesS_take_none {x : Lay} : ∀ {l : List ByteArray} {k : Nat}, placesS x (l.take k) = none → placesS x l = none
 | [], k, h => by simp [placesS] at h
 | m :: r, 0, h => by simp [placesS] at h
 | m :: r, k + 1, h => by
  rw [List.take_succ_cons] at h
  unfold placesS at h ⊢
  cases hm : placeS x m with
  | none => rfl
  | some c =>
   rw [hm] at h
   cases hr : placesS x (r.take k) with
   | none => rw [placesS_take_none hr]
   | some l => rw [hr] at h; cases h
theorem ref_condition {W : World} {v vn : Value} {x : Lay} {wd : ByteArray} {names : List ByteArray} (hx : LayV (Old W) W v x) (hok : ∀ c ∈ x.ats, Ok2 c) (hn : Strs (Old W) W vn names) (hnl : names.length ≤ 1000) :
  Calls Tryz.prog 17 #[v, .string wd, vn] W fun e w' => ∃ v', e = .returned (.tuple #[v', .int .i64 (condX x wd names).1]) ∧ Terms (Old w') w' v' (ofP (condX x wd names).2) ∧ Ext W w' := by
 have HXL := hid hx
 have HOK := hid hok
 obtain ⟨vp, va, rfl, hp, ha⟩ := hx
 have HA := hid ha
 have HN := hid hn
 have hla := ha.len_le
 obtain ⟨ap, cp, rfl⟩ := hp.form
 obtain ⟨aa, ca, rfl⟩ := ha.form
 obtain ⟨an, cn, rfl⟩ := hn.form
 obtain ⟨n, hnn⟩ : ∃ n, n = names.length := ⟨_, rfl⟩
 obtain ⟨np, hnp⟩ : ∃ n, n = x.pts.length := ⟨_, rfl⟩
 obtain ⟨na, hna⟩ : ∃ n, n = x.ats.length := ⟨_, rfl⟩
 rw [← hnn] at HN hnl ⊢
 rw [← hna] at HA HXL hla ⊢
 rw [← hnp] at HXL ⊢
 have HNN := hid hnn
 have HNA := hid hna
 obtain ⟨w0, hw0⟩ : ∃ Y, Y = W.alloc (.cells #[.slice ap np cp, .slice aa na ca, .int .i64 x.par, .int .i64 x.vrs] 35) := ⟨_, rfl⟩
 have HX0 : Hid (Ext W w0) := hid (by rw [hw0]; exact Ext.alloc (Ext.refl _) _)
 have HB := hid (fun (Y : World) (hY : Ext w0 Y) => by
  rw [hw0] at hY
  have k0 : ∀ (i : Nat) (u : Value), #[Value.slice ap np cp, .slice aa na ca, .int .i64 x.par, .int .i64 x.vrs][i]? = some u → Y.cell? ⟨W.heap.size, i, none⟩ = some u := fun i u hu => hY.cell (cell_new W _ _ rfl hu)
  exact And.intro (k0 0 _ rfl) (And.intro (k0 1 _ rfl) (And.intro (k0 2 _ rfl) (k0 3 _ rfl))))
 clear hp ha hn hok hnn hnp hna
 cases haw : askW wd with
 | none =>
  have HE : Hid (condX x wd names = (5, [])) := hid (by unfold condX; rw [haw])
  have h1 : wd ≠ wUnlike := fun e => by rw [e] at haw; cases haw
  have h2 : wd ≠ wApart := fun e => by rw [e] at haw; cases haw
  have h3 : wd ≠ wCross := fun e => by rw [e] at haw; cases haw
  have h4 : wd ≠ wDot := fun e => by rw [e] at haw; cases haw
  have q1 := noUnlike h1
  have q2 := noApart h2
  have q3 := noCross h3
  have q4 := noDot h4
  rw [hw0] at HX0
  clear h1 h2 h3 h4 haw hw0
  go_enter Tryz.func17, Tryz.ntmps17
  go_wp2
  all_goals
   go_ret2
   rw [HE.out]
   exact ⟨_, rfl, Terms.nilv _ _ _ _ (by decide), HX0.out⟩
 | some a =>
  have HAW := hid haw
  have HW0 := hid hw0
  clear hw0 haw
  go_enter Tryz.func17, Tryz.ntmps17
  go_upto_block 0 with fail
  rw [← HW0.out]
  go_cut [8] (fun u8 wx => u8 = .int .i64 (a : Int) ∧ wx = w0)
  case first =>
   have hask := HAW.out
   by_cases hU : wd = wUnlike
   ·obtain rfl : 2 = a := by unfold askW at hask; rw [if_pos hU] at hask; exact Option.some.inj hask
    have q1 := isUnlike hU
    clear hU hask
    go_wp2
    go_meet
    exact ⟨rfl, rfl⟩
   ·by_cases hP : wd = wApart
    ·obtain rfl : 3 = a := by unfold askW at hask; rw [if_neg hU, if_pos hP] at hask; exact Option.some.inj hask
     have q1 := noUnlike hU
     have q2 := isApart hP
     clear hU hP hask
     go_wp2
     go_meet
     exact ⟨rfl, rfl⟩
    ·by_cases hC : wd = wCross
     ·obtain rfl : 4 = a := by unfold askW at hask; rw [if_neg hU, if_neg hP, if_pos hC] at hask; exact Option.some.inj hask
      have q1 := noUnlike hU
      have q2 := noApart hP
      have q3 := isCross hC
      clear hU hP hC hask
      go_wp2
      go_meet
      exact ⟨rfl, rfl⟩
     ·have hD : wd = wDot := by
       unfold askW at hask
       rw [if_neg hU, if_neg hP, if_neg hC] at hask
       by_cases h : wd = wDot
       ·exact h
       ·rw [if_neg h] at hask; cases hask
      obtain rfl : 4 = a := by unfold askW at hask; rw [if_neg hU, if_neg hP, if_neg hC, if_pos hD] at hask; exact Option.some.inj hask
      have q1 := noUnlike hU
      have q2 := noApart hP
      have q3 := noCross hC
      have q4 := isDot hD
      clear hU hP hC hD hask
      go_wp2
      go_meet
      exact ⟨rfl, rfl⟩
  case rest =>
   obtain ⟨rfl, e⟩ := hcut
   have e2 := e.symm
   subst e2
   clear e
   go_wp2
   go_loopw [9, 10] (fun s i wr => ∃ (k : Nat) (cs : List (Int × Int)), k ≤ n ∧ i = .int .i64 k ∧ Hid (placesS x (names.take k) = some cs) ∧ Hid (wr.ownsRow w0.heap.size 87 2 s cs.length (flatP cs)) ∧ Ext w0 wr ∧ Hid (cs.length ≤ k)) (fun _ i _ => n - (intOf i).toNat)
   case atStart => exact ⟨0, [], Nat.zero_le _, rfl, hid rfl, hid (World.ownsRow_nil _ _ _ _), Ext.refl _, hid (Nat.le_refl _)⟩
   case round =>
    obtain ⟨k, cs, hk, rfl, HPS, HO, hxr, HCL⟩ := hrel
    have HX := hid hxr
    have HXW := hid (HX0.out.trans hxr)
    by_cases hlt : k < n
    ·obtain ⟨nm, hnm⟩ := some_of_lt (l := names) (j := k) (by rw [← HNN.out]; exact hlt)
     obtain ⟨b1, o1, rfl, -, hq1, hq2, -, hq3⟩ := (HN.out.to (Kept.ext HXW.out (fun _ h => h)) (old_lt HXW.out)).cellAt hnm
     have HTK : Hid (names.take (k + 1) = names.take k ++ [nm]) := hid (by rw [List.take_add_one, hnm]; rfl)
     have HIX := hid (ref_place (x := x) (HXL.out.on ((HXW.out.trans (Ext.drew (Ext.refl wr))))) nm)
     have HCC : Hid (∀ Y, Ext wr Y → Y.cell? ⟨W.heap.size, 0, none⟩ = some (.slice ap np cp) ∧ Y.cell? ⟨W.heap.size, 1, none⟩ = some (.slice aa na ca) ∧ Y.cell? ⟨W.heap.size, 2, none⟩ = some (.int .i64 x.par) ∧ Y.cell? ⟨W.heap.size, 3, none⟩ = some (.int .i64 x.vrs) ∧ Y.cell? ⟨b1, o1 + k, none⟩ = some (.string nm)) := hid (fun Y h => by
      obtain ⟨c0, c1, c2, c3⟩ := HB.out Y (HX.out.trans h)
      exact ⟨c0, c1, c2, c3, h.cell hq3⟩)
     have S0 := HCC.out wr.drew (Ext.drew (Ext.refl _))
     have HO0 := HO
     clear hnm hxr hq3
     go_upto_region 15 with fail
     go_cut [11] (fun u11 wx => u11 = .int .i64 (placeI x nm) ∧ Ext wr wx)
     case first =>
      go_region_held3 (fun Y => Y.cell? ⟨W.heap.size, 0, none⟩ = some (.slice ap np cp) ∧ Y.cell? ⟨W.heap.size, 1, none⟩ = some (.slice aa na ca) ∧ Y.cell? ⟨W.heap.size, 2, none⟩ = some (.int .i64 x.par) ∧ Y.cell? ⟨W.heap.size, 3, none⟩ = some (.int .i64 x.vrs) ∧ Y.cell? ⟨b1, o1 + k, none⟩ = some (.string nm)) (first | exact S0 | exact S1)
       (first | (go_at_call 48; (with_reducible refine HIX.out.mono ?_); rintro e w1 ⟨rfl, hx1⟩; have HX1 := hid ((Ext.drew (Ext.refl wr)).trans hx1); have S1 := HCC.out _ HX1.out; clear hx1) | fail)
      all_goals
       go_wp2_with fail
       go_meet
       exact ⟨rfl, HX1.out⟩
     case rest =>
      obtain ⟨rfl, hx1⟩ := hcut
      have HX1' := hid hx1
      have HX1 := hid (HX.out.trans hx1)
      have HO1 := hid (own_ext HO.out hx1)
      obtain ⟨d0, d1, d2, d3⟩ := HB.out _ HX1.out
      have HBS2 : Hid (w0.heap.size ≤ wc.heap.size) := hid HX1.out.size
      clear hx1
      rcases place_eq x nm with ⟨hI, hP⟩ | ⟨i, c, hI, hc, hP⟩
      ·rw [hI]
       have HE : Hid (condX x wd names = (5, [])) := hid (condX_no (placesS_take_none (k := k + 1) (by rw [HTK.out, placesS_snoc, HPS.out, hP])))
       clear hI hP
       go_wp2
       all_goals
        go_ret2
        rw [HE.out]
        exact ⟨_, rfl, Terms.nilv _ _ _ _ (by decide), HX0.out.trans HX1.out⟩
      ·rw [hI]
       have hi0 : (0 : Int) ≤ (i : Int) := by omega
       have hia : i < na := by rw [HNA.out]; exact lt_of_some hc
       obtain ⟨b2, o2, rfl, -, hq4, hq5, -, -, z0, z1⟩ := (HA.out.on (HX0.out.trans HX1.out)).cellAt hc
       have HPL : Hid (placesS x (names.take (k + 1)) = some (cs ++ [c])) := hid (by rw [HTK.out, placesS_snoc, HPS.out, hP])
       obtain ⟨u, z⟩ := c
       simp only at z0 z1 HPL
       have HDL : Hid (cs.length ≤ 1000000000) := hid (by have := HCL.out; omega)
       clear hI hP hc
       go_wp2_with (at_builtin; refine wpList_append_new _ rfl (.tmp 35) (.tmp 41) 33 rfl w0.heap.size 87 (.agg #[.int .i64 0, .int .i64 0]) 2 16 Tryz.underlying33 Tryz.infoCoord rfl (by decide) _ _ _ rfl HO1.out #[.int .i64 u, .int .i64 z] rfl (pow_cells _ _) rfl HDL.out (by decide) HBS2.out ?_; intro v1 w2 hown hg _; have HOW := hid hown; have HG := hid hg; clear hown hg)
       go_roundw
       case rel =>
        refine ⟨k + 1, cs ++ [(u, z)], by omega, by go_num, hid HPL.out, hid ?_, own_grown0 HX1.out HO1.out HG.out, hid (by have := HCL.out; rw [List.length_append, List.length_singleton]; omega)⟩
        rw [flatP_append, List.length_append]
        have h1 := HOW.out
        simpa [flatP] using h1
       case measure => simp only [intOf]; omega
    ·obtain rfl : n = k := by omega
     have HTN : Hid (names.take n = names) := hid (by rw [HNN.out]; exact List.take_length)
     have HPN : Hid (placesS x names = some cs) := hid (by rw [← HTN.out]; exact HPS.out)
     have HOC : Hid (∀ c ∈ cs, Ok2 c) := hid (fun c hc => HOK.out c (placesS_mem HPN.out c hc))
     have hcl : cs.length = n := by rw [HNN.out]; exact placesS_len HPN.out
     have hsp := (own_pows HO.out (fun c hc => by have h := HOC.out c hc; unfold Ok2 at h; unfold inI64; omega)).to (S' := Old wr) (Kept.refl _ _) (fun _ h => h.2)
     obtain ⟨a2, c2, hsf⟩ := hsp.form
     subst hsf
     rw [hcl] at hsp
     have HSP := hid hsp
     have HCLN := hid hcl
     rw [hcl]
     clear hxr hsp hcl
     by_cases hna : n = a
     ·have HE : Hid (condX x wd names = (0, condP wd cs)) := hid (by rw [condX_at HAW.out HPN.out]; exact if_pos (by rw [← HNN.out]; exact hna))
      subst hna
      have qe : ((n : Int) != (n : Int)) = false := by simp
      have hcl := HCLN.out
      by_cases hU : wd = wUnlike
      ·have hn2 : cs.length = 2 := by have h := HAW.out; unfold askW at h; rw [if_pos hU] at h; have := Option.some.inj h; omega
       obtain rfl : 2 = n := by have := HCLN.out; omega
       have HE2 : Hid (condP wd cs = dotP (cs.getD 0 (1, 1)) (cs.getD 1 (1, 1)) (cs.getD 0 (1, 1)) (cs.getD 1 (1, 1))) := hid (by unfold condP; rw [if_pos hU])
       have C := hid (fun (Y : World) => ref_dot Y (ok_getD HOC.out 0) (ok_getD HOC.out 1) (ok_getD HOC.out 0) (ok_getD HOC.out 1))
       have qUnlike := isUnlike hU
       obtain ⟨b0, o0, e0, -, hq0, hr0, -, -, x0, y0⟩ := HSP.out.cellAt (at_getD (cs := cs) (j := 0) (by omega))
       obtain ⟨b1, o1, e1, -, hq1, hr1, -, -, x1, y1⟩ := HSP.out.cellAt (at_getD (cs := cs) (j := 1) (by omega))
       subst e0
       obtain ⟨rfl, rfl⟩ : b0 = b1 ∧ o0 = o1 := by simpa using e1
       obtain ⟨c0, hc0⟩ : ∃ c, c = cs.getD 0 (1, 1) := ⟨_, rfl⟩
       obtain ⟨c1, hc1⟩ : ∃ c, c = cs.getD 1 (1, 1) := ⟨_, rfl⟩
       rw [← hc0, ← hc1] at C HE2
       rw [← hc0] at x0 y0
       rw [← hc1] at x1 y1
       obtain ⟨p0, r0⟩ := c0
       obtain ⟨p1, r1⟩ := c1
       simp only at x0 y0 x1 y1 C
       have HFC := hid (fit_cond wd HOC.out)
       rw [HE2.out] at HFC
       clear hU hn2 hcl hc0 hc1 e1
       have HCL2 : Hid (∀ Y, Ext wr Y → Y.cell? ⟨b0, o0, none⟩ = some (.int .i64 p0) ∧ Y.cell? ⟨b0, o0 + 1, none⟩ = some (.int .i64 r0) ∧ Y.cell? ⟨b0, o0 + 2, none⟩ = some (.int .i64 p1) ∧ Y.cell? ⟨b0, o0 + 3, none⟩ = some (.int .i64 r1)) := hid (fun Y h => ⟨h.cell x0, h.cell y0, h.cell x1, h.cell y1⟩)
       have S0 := fun (T : TypeId) => HCL2.out _ (((Ext.refl wr).alloc (.cells #[] T)).drew)
       go_wp2
       go_region_held3 (fun Y => Y.cell? ⟨b0, o0, none⟩ = some (.int .i64 p0) ∧ Y.cell? ⟨b0, o0 + 1, none⟩ = some (.int .i64 r0) ∧ Y.cell? ⟨b0, o0 + 2, none⟩ = some (.int .i64 p1) ∧ Y.cell? ⟨b0, o0 + 3, none⟩ = some (.int .i64 r1)) (first | exact S0 _ | exact S1) (first | (go_at_call 49; (with_reducible refine (C.out _).mono ?_); rintro e w5 ⟨v5, rfl, hp5, hx5⟩; have HX5 := hid ((((Ext.refl wr).alloc _).drew).trans hx5); have S1 := HCL2.out _ HX5.out; have HP5 := hid hp5; obtain ⟨a5, k5, rfl⟩ := hp5.form; clear hx5 hp5) | fail)
       all_goals
        go_wp2_with (go_at_call 20; (with_reducible refine (rz_poly HP5.out HFC.out (by decide) (by decide)).mono ?_); rintro e w6 ⟨v6, rfl, hp6, hx6⟩; have HX6 := hid ((HXW.out.trans HX5.out).trans hx6); have HP6 := hid hp6; obtain ⟨a6, k6, rfl⟩ := hp6.form; clear hx6 hp6)
        go_ret2
        rw [HE.out]
        exact ⟨_, rfl, by rw [HE2.out]; exact HP6.out, HX6.out⟩
      ·by_cases hP : wd = wApart
       ·have hn2 : cs.length = 3 := by have h := HAW.out; unfold askW at h; rw [if_neg hU, if_pos hP] at h; have := Option.some.inj h; omega
        obtain rfl : 3 = n := by have := HCLN.out; omega
        have HE2 : Hid (condP wd cs = crossP (cs.getD 0 (1, 1)) (cs.getD 1 (1, 1)) (cs.getD 0 (1, 1)) (cs.getD 2 (1, 1))) := hid (by unfold condP; rw [if_neg hU, if_pos hP])
        have C := hid (fun (Y : World) => ref_cross Y (ok_getD HOC.out 0) (ok_getD HOC.out 1) (ok_getD HOC.out 0) (ok_getD HOC.out 2))
        have qUnlike := noUnlike hU
        have qApart := isApart hP
        obtain ⟨b0, o0, e0, -, hq0, hr0, -, -, x0, y0⟩ := HSP.out.cellAt (at_getD (cs := cs) (j := 0) (by omega))
        obtain ⟨b1, o1, e1, -, hq1, hr1, -, -, x1, y1⟩ := HSP.out.cellAt (at_getD (cs := cs) (j := 1) (by omega))
        obtain ⟨b2, o2, e2, -, hq2, hr2, -, -, x2, y2⟩ := HSP.out.cellAt (at_getD (cs := cs) (j := 2) (by omega))
        subst e0
        obtain ⟨rfl, rfl⟩ : b0 = b1 ∧ o0 = o1 := by simpa using e1
        obtain ⟨rfl, rfl⟩ : b0 = b2 ∧ o0 = o2 := by simpa using e2
        obtain ⟨c0, hc0⟩ : ∃ c, c = cs.getD 0 (1, 1) := ⟨_, rfl⟩
        obtain ⟨c1, hc1⟩ : ∃ c, c = cs.getD 1 (1, 1) := ⟨_, rfl⟩
        obtain ⟨c2, hc2⟩ : ∃ c, c = cs.getD 2 (1, 1) := ⟨_, rfl⟩
        rw [← hc0, ← hc1, ← hc2] at C HE2
        rw [← hc0] at x0 y0
        rw [← hc1] at x1 y1
        rw [← hc2] at x2 y2
        obtain ⟨p0, r0⟩ := c0
        obtain ⟨p1, r1⟩ := c1
        obtain ⟨p2, r2⟩ := c2
        simp only at x0 y0 x1 y1 x2 y2 C
        have HFC := hid (fit_cond wd HOC.out)
        rw [HE2.out] at HFC
        clear hU hP hn2 hcl hc0 hc1 hc2 e1 e2
        have HCL2 : Hid (∀ Y, Ext wr Y → Y.cell? ⟨b0, o0, none⟩ = some (.int .i64 p0) ∧ Y.cell? ⟨b0, o0 + 1, none⟩ = some (.int .i64 r0) ∧ Y.cell? ⟨b0, o0 + 2, none⟩ = some (.int .i64 p1) ∧ Y.cell? ⟨b0, o0 + 3, none⟩ = some (.int .i64 r1) ∧ Y.cell? ⟨b0, o0 + 4, none⟩ = some (.int .i64 p2) ∧ Y.cell? ⟨b0, o0 + 5, none⟩ = some (.int .i64 r2)) := hid (fun Y h => ⟨h.cell x0, h.cell y0, h.cell x1, h.cell y1, h.cell x2, h.cell y2⟩)
        have S0 := fun (T : TypeId) => HCL2.out _ (((Ext.refl wr).alloc (.cells #[] T)).drew)
        go_wp2
        go_region_held3 (fun Y => Y.cell? ⟨b0, o0, none⟩ = some (.int .i64 p0) ∧ Y.cell? ⟨b0, o0 + 1, none⟩ = some (.int .i64 r0) ∧ Y.cell? ⟨b0, o0 + 2, none⟩ = some (.int .i64 p1) ∧ Y.cell? ⟨b0, o0 + 3, none⟩ = some (.int .i64 r1) ∧ Y.cell? ⟨b0, o0 + 4, none⟩ = some (.int .i64 p2) ∧ Y.cell? ⟨b0, o0 + 5, none⟩ = some (.int .i64 r2)) (first | exact S0 _ | exact S1) (first | (go_at_call 50; (with_reducible refine (C.out _).mono ?_); rintro e w5 ⟨v5, rfl, hp5, hx5⟩; have HX5 := hid ((((Ext.refl wr).alloc _).drew).trans hx5); have S1 := HCL2.out _ HX5.out; have HP5 := hid hp5; obtain ⟨a5, k5, rfl⟩ := hp5.form; clear hx5 hp5) | fail)
        all_goals
         go_wp2_with (go_at_call 20; (with_reducible refine (rz_poly HP5.out HFC.out (by decide) (by decide)).mono ?_); rintro e w6 ⟨v6, rfl, hp6, hx6⟩; have HX6 := hid ((HXW.out.trans HX5.out).trans hx6); have HP6 := hid hp6; obtain ⟨a6, k6, rfl⟩ := hp6.form; clear hx6 hp6)
         go_ret2
         rw [HE.out]
         exact ⟨_, rfl, by rw [HE2.out]; exact HP6.out, HX6.out⟩
       ·by_cases hC : wd = wCross
        ·have hn2 : cs.length = 4 := by have h := HAW.out; unfold askW at h; rw [if_neg hU, if_neg hP, if_pos hC] at h; have := Option.some.inj h; omega
         obtain rfl : 4 = n := by have := HCLN.out; omega
         have HE2 : Hid (condP wd cs = crossP (cs.getD 0 (1, 1)) (cs.getD 1 (1, 1)) (cs.getD 2 (1, 1)) (cs.getD 3 (1, 1))) := hid (by unfold condP; rw [if_neg hU, if_neg hP, if_pos hC])
         have C := hid (fun (Y : World) => ref_cross Y (ok_getD HOC.out 0) (ok_getD HOC.out 1) (ok_getD HOC.out 2) (ok_getD HOC.out 3))
         have qUnlike := noUnlike hU
         have qApart := noApart hP
         have qCross := isCross hC
         obtain ⟨b0, o0, e0, -, hq0, hr0, -, -, x0, y0⟩ := HSP.out.cellAt (at_getD (cs := cs) (j := 0) (by omega))
         obtain ⟨b1, o1, e1, -, hq1, hr1, -, -, x1, y1⟩ := HSP.out.cellAt (at_getD (cs := cs) (j := 1) (by omega))
         obtain ⟨b2, o2, e2, -, hq2, hr2, -, -, x2, y2⟩ := HSP.out.cellAt (at_getD (cs := cs) (j := 2) (by omega))
         obtain ⟨b3, o3, e3, -, hq3, hr3, -, -, x3, y3⟩ := HSP.out.cellAt (at_getD (cs := cs) (j := 3) (by omega))
         subst e0
         obtain ⟨rfl, rfl⟩ : b0 = b1 ∧ o0 = o1 := by simpa using e1
         obtain ⟨rfl, rfl⟩ : b0 = b2 ∧ o0 = o2 := by simpa using e2
         obtain ⟨rfl, rfl⟩ : b0 = b3 ∧ o0 = o3 := by simpa using e3
         obtain ⟨c0, hc0⟩ : ∃ c, c = cs.getD 0 (1, 1) := ⟨_, rfl⟩
         obtain ⟨c1, hc1⟩ : ∃ c, c = cs.getD 1 (1, 1) := ⟨_, rfl⟩
         obtain ⟨c2, hc2⟩ : ∃ c, c = cs.getD 2 (1, 1) := ⟨_, rfl⟩
         obtain ⟨c3, hc3⟩ : ∃ c, c = cs.getD 3 (1, 1) := ⟨_, rfl⟩
         rw [← hc0, ← hc1, ← hc2, ← hc3] at C HE2
         rw [← hc0] at x0 y0
         rw [← hc1] at x1 y1
         rw [← hc2] at x2 y2
         rw [← hc3] at x3 y3
         obtain ⟨p0, r0⟩ := c0
         obtain ⟨p1, r1⟩ := c1
         obtain ⟨p2, r2⟩ := c2
         obtain ⟨p3, r3⟩ := c3
         simp only at x0 y0 x1 y1 x2 y2 x3 y3 C
         have HFC := hid (fit_cond wd HOC.out)
         rw [HE2.out] at HFC
         clear hU hP hC hn2 hcl hc0 hc1 hc2 hc3 e1 e2 e3
         have HCL2 : Hid (∀ Y, Ext wr Y → Y.cell? ⟨b0, o0, none⟩ = some (.int .i64 p0) ∧ Y.cell? ⟨b0, o0 + 1, none⟩ = some (.int .i64 r0) ∧ Y.cell? ⟨b0, o0 + 2, none⟩ = some (.int .i64 p1) ∧ Y.cell? ⟨b0, o0 + 3, none⟩ = some (.int .i64 r1) ∧ Y.cell? ⟨b0, o0 + 4, none⟩ = some (.int .i64 p2) ∧ Y.cell? ⟨b0, o0 + 5, none⟩ = some (.int .i64 r2) ∧ Y.cell? ⟨b0, o0 + 6, none⟩ = some (.int .i64 p3) ∧ Y.cell? ⟨b0, o0 + 7, none⟩ = some (.int .i64 r3)) := hid (fun Y h => ⟨h.cell x0, h.cell y0, h.cell x1, h.cell y1, h.cell x2, h.cell y2, h.cell x3, h.cell y3⟩)
         have S0 := fun (T : TypeId) => HCL2.out _ (((Ext.refl wr).alloc (.cells #[] T)).drew)
         go_wp2
         go_region_held3 (fun Y => Y.cell? ⟨b0, o0, none⟩ = some (.int .i64 p0) ∧ Y.cell? ⟨b0, o0 + 1, none⟩ = some (.int .i64 r0) ∧ Y.cell? ⟨b0, o0 + 2, none⟩ = some (.int .i64 p1) ∧ Y.cell? ⟨b0, o0 + 3, none⟩ = some (.int .i64 r1) ∧ Y.cell? ⟨b0, o0 + 4, none⟩ = some (.int .i64 p2) ∧ Y.cell? ⟨b0, o0 + 5, none⟩ = some (.int .i64 r2) ∧ Y.cell? ⟨b0, o0 + 6, none⟩ = some (.int .i64 p3) ∧ Y.cell? ⟨b0, o0 + 7, none⟩ = some (.int .i64 r3)) (first | exact S0 _ | exact S1) (first | (go_at_call 50; (with_reducible refine (C.out _).mono ?_); rintro e w5 ⟨v5, rfl, hp5, hx5⟩; have HX5 := hid ((((Ext.refl wr).alloc _).drew).trans hx5); have S1 := HCL2.out _ HX5.out; have HP5 := hid hp5; obtain ⟨a5, k5, rfl⟩ := hp5.form; clear hx5 hp5) | fail)
         all_goals
          go_wp2_with (go_at_call 20; (with_reducible refine (rz_poly HP5.out HFC.out (by decide) (by decide)).mono ?_); rintro e w6 ⟨v6, rfl, hp6, hx6⟩; have HX6 := hid ((HXW.out.trans HX5.out).trans hx6); have HP6 := hid hp6; obtain ⟨a6, k6, rfl⟩ := hp6.form; clear hx6 hp6)
          go_ret2
          rw [HE.out]
          exact ⟨_, rfl, by rw [HE2.out]; exact HP6.out, HX6.out⟩
        ·have hD : wd = wDot := by
          have hask := HAW.out
          unfold askW at hask
          rw [if_neg hU, if_neg hP, if_neg hC] at hask
          by_cases h : wd = wDot
          ·exact h
          ·rw [if_neg h] at hask; cases hask
         have hn2 : cs.length = 4 := by have h := HAW.out; unfold askW at h; rw [if_neg hU, if_neg hP, if_neg hC, if_pos hD] at h; have := Option.some.inj h; omega
         obtain rfl : 4 = n := by have := HCLN.out; omega
         have HE2 : Hid (condP wd cs = dotP (cs.getD 0 (1, 1)) (cs.getD 1 (1, 1)) (cs.getD 2 (1, 1)) (cs.getD 3 (1, 1))) := hid (by unfold condP; rw [if_neg hU, if_neg hP, if_neg hC])
         have C := hid (fun (Y : World) => ref_dot Y (ok_getD HOC.out 0) (ok_getD HOC.out 1) (ok_getD HOC.out 2) (ok_getD HOC.out 3))
         have qUnlike := noUnlike hU
         have qApart := noApart hP
         have qCross := noCross hC
         obtain ⟨b0, o0, e0, -, hq0, hr0, -, -, x0, y0⟩ := HSP.out.cellAt (at_getD (cs := cs) (j := 0) (by omega))
         obtain ⟨b1, o1, e1, -, hq1, hr1, -, -, x1, y1⟩ := HSP.out.cellAt (at_getD (cs := cs) (j := 1) (by omega))
         obtain ⟨b2, o2, e2, -, hq2, hr2, -, -, x2, y2⟩ := HSP.out.cellAt (at_getD (cs := cs) (j := 2) (by omega))
         obtain ⟨b3, o3, e3, -, hq3, hr3, -, -, x3, y3⟩ := HSP.out.cellAt (at_getD (cs := cs) (j := 3) (by omega))
         subst e0
         obtain ⟨rfl, rfl⟩ : b0 = b1 ∧ o0 = o1 := by simpa using e1
         obtain ⟨rfl, rfl⟩ : b0 = b2 ∧ o0 = o2 := by simpa using e2
         obtain ⟨rfl, rfl⟩ : b0 = b3 ∧ o0 = o3 := by simpa using e3
         obtain ⟨c0, hc0⟩ : ∃ c, c = cs.getD 0 (1, 1) := ⟨_, rfl⟩
         obtain ⟨c1, hc1⟩ : ∃ c, c = cs.getD 1 (1, 1) := ⟨_, rfl⟩
         obtain ⟨c2, hc2⟩ : ∃ c, c = cs.getD 2 (1, 1) := ⟨_, rfl⟩
         obtain ⟨c3, hc3⟩ : ∃ c, c = cs.getD 3 (1, 1) := ⟨_, rfl⟩
         rw [← hc0, ← hc1, ← hc2, ← hc3] at C HE2
         rw [← hc0] at x0 y0
         rw [← hc1] at x1 y1
         rw [← hc2] at x2 y2
         rw [← hc3] at x3 y3
         obtain ⟨p0, r0⟩ := c0
         obtain ⟨p1, r1⟩ := c1
         obtain ⟨p2, r2⟩ := c2
         obtain ⟨p3, r3⟩ := c3
         simp only at x0 y0 x1 y1 x2 y2 x3 y3 C
         have HFC := hid (fit_cond wd HOC.out)
         rw [HE2.out] at HFC
         clear hU hP hC hD hn2 hcl hc0 hc1 hc2 hc3 e1 e2 e3
         have HCL2 : Hid (∀ Y, Ext wr Y → Y.cell? ⟨b0, o0, none⟩ = some (.int .i64 p0) ∧ Y.cell? ⟨b0, o0 + 1, none⟩ = some (.int .i64 r0) ∧ Y.cell? ⟨b0, o0 + 2, none⟩ = some (.int .i64 p1) ∧ Y.cell? ⟨b0, o0 + 3, none⟩ = some (.int .i64 r1) ∧ Y.cell? ⟨b0, o0 + 4, none⟩ = some (.int .i64 p2) ∧ Y.cell? ⟨b0, o0 + 5, none⟩ = some (.int .i64 r2) ∧ Y.cell? ⟨b0, o0 + 6, none⟩ = some (.int .i64 p3) ∧ Y.cell? ⟨b0, o0 + 7, none⟩ = some (.int .i64 r3)) := hid (fun Y h => ⟨h.cell x0, h.cell y0, h.cell x1, h.cell y1, h.cell x2, h.cell y2, h.cell x3, h.cell y3⟩)
         have S0 := fun (T : TypeId) => HCL2.out _ (((Ext.refl wr).alloc (.cells #[] T)).drew)
         go_wp2
         go_region_held3 (fun Y => Y.cell? ⟨b0, o0, none⟩ = some (.int .i64 p0) ∧ Y.cell? ⟨b0, o0 + 1, none⟩ = some (.int .i64 r0) ∧ Y.cell? ⟨b0, o0 + 2, none⟩ = some (.int .i64 p1) ∧ Y.cell? ⟨b0, o0 + 3, none⟩ = some (.int .i64 r1) ∧ Y.cell? ⟨b0, o0 + 4, none⟩ = some (.int .i64 p2) ∧ Y.cell? ⟨b0, o0 + 5, none⟩ = some (.int .i64 r2) ∧ Y.cell? ⟨b0, o0 + 6, none⟩ = some (.int .i64 p3) ∧ Y.cell? ⟨b0, o0 + 7, none⟩ = some (.int .i64 r3)) (first | exact S0 _ | exact S1) (first | (go_at_call 49; (with_reducible refine (C.out _).mono ?_); rintro e w5 ⟨v5, rfl, hp5, hx5⟩; have HX5 := hid ((((Ext.refl wr).alloc _).drew).trans hx5); have S1 := HCL2.out _ HX5.out; have HP5 := hid hp5; obtain ⟨a5, k5, rfl⟩ := hp5.form; clear hx5 hp5) | fail)
         all_goals
          go_wp2_with (go_at_call 20; (with_reducible refine (rz_poly HP5.out HFC.out (by decide) (by decide)).mono ?_); rintro e w6 ⟨v6, rfl, hp6, hx6⟩; have HX6 := hid ((HXW.out.trans HX5.out).trans hx6); have HP6 := hid hp6; obtain ⟨a6, k6, rfl⟩ := hp6.form; clear hx6 hp6)
          go_ret2
          rw [HE.out]
          exact ⟨_, rfl, by rw [HE2.out]; exact HP6.out, HX6.out⟩
     ·have HE : Hid (condX x wd names = (13, [])) := hid (by rw [condX_at HAW.out HPN.out]; exact if_neg (by rw [← HNN.out]; exact hna))
      have qe : ((n : Int) != (a : Int)) = true := by rw [bne_iff_ne]; omega
      clear hna
      go_wp2
      all_goals
       go_ret2
       rw [HE.out]
       exact ⟨_, rfl, Terms.nilv _ _ _ _ (by decide), HXW.out⟩
end
section
open Go.RowKit Go.Shelf
def IdxPost (b : Bool) (w : World) (e : Ending) (w' : World) : Prop := ∃ i : Int, e = .returned (.int .i64 i) ∧ decide (0 ≤ i) = b ∧ Ext w w'
def hasM (v : Int) (m : Mono) : Bool := m.any fun w => decide (w.1 = v)
def hasV (v : Int) (ts : List RTerm) : Bool := ts.any fun t => hasM v t.m
theorem index_pows {S : Nat → Prop} (g : Nat) (pb : Value) (eg : ∀ args w, (callFunc g args).run Tryz.prog w = .ok (.enter g args) w) (pr : Int × Int → Bool) (ls : List (Int × Int)) (v : Value) (w : World) (h : Pows S w v ls) (hS : ∀ k, S k → k < w.heap.size)
  (hI : ∀ (t : Int × Int) (W : World), t ∈ ls → Ext w W → Calls Tryz.prog g #[.agg #[.int .i64 t.1, .int .i64 t.2], pb] W fun e W' => e = .returned (.bool (pr t)) ∧ Ext W W') :
  Calls Tryz.prog 148 #[v, .func (.func g) #[] #[pb]] w (IdxPost (ls.any pr) w) := by
 have HP := hid h
 have HI := hid hI
 have hll := h.len_le
 obtain ⟨a, c, rfl⟩ := h.form
 obtain ⟨n, hn⟩ : ∃ n, n = ls.length := ⟨_, rfl⟩
 rw [← hn] at HP hll ⊢
 have HN := hid hn
 clear h hI hn
 go_enter Tryz.func148, Tryz.ntmps148
 go_wp2
 go_loopw [8] (fun i wr => ∃ k : Nat, k ≤ n ∧ i = .int .i64 (k : Nat) ∧ Ext w wr ∧ Hid ((ls.take k).any pr = false)) (fun i _ => n - (intOf i).toNat)
 case atStart => exact ⟨0, Nat.zero_le _, rfl, Ext.refl _, rfl⟩
 case round =>
  obtain ⟨k, hk, rfl, hx, HF⟩ := hrel
  have HX := hid hx
  by_cases hlt : k < n
  ·obtain ⟨t, hp⟩ := some_of_lt (l := ls) (j := k) (by rw [← HN.out]; exact hlt)
   obtain ⟨b, o, rfl, -, h2, h3, -, hz, h5, h6⟩ := (HP.out.ext hx hS).cellAt hp
   have CP := hid (HI.out t wr (List.mem_of_getElem? hp) hx)
   have HMP := hid (List.mem_of_getElem? hp)
   have HTK : Hid (ls.take (k + 1) = ls.take k ++ [t]) := hid (by rw [List.take_add_one, hp]; rfl)
   obtain ⟨tt, ht⟩ : ∃ z, z = pr t := ⟨_, rfl⟩
   rw [← ht] at CP
   have HT := hid ht
   clear hp ht hx
   go_wp2_with fail
   with_reducible refine CP.out.mono ?_
   rintro e w1 ⟨rfl, hx1⟩
   have HX1 := hid (HX.out.trans hx1)
   clear hx1
   cases tt with
   | true =>
    go_wp2
    all_goals
     go_ret
     refine ⟨_, rfl, ?_, HX1.out⟩
     rw [List.any_eq_true.2 ⟨t, HMP.out, HT.out.symm⟩]
     exact decide_eq_true (by omega)
   | false =>
    go_wp2
    go_roundw
    case rel =>
     refine ⟨k + 1, by omega, by go_num, HX1.out, ?_⟩
     show (ls.take (k + 1)).any pr = false
     rw [HTK.out, List.any_append, HF.out]
     simp [← HT.out]
    case measure => simp only [intOf]; omega
  ·obtain rfl : k = n := by omega
   have HA : Hid (ls.any pr = false) := hid (by have h := HF.out; rwa [List.take_of_length_le (by rw [← HN.out]; exact Nat.le_refl _)] at h)
   go_wp2
   all_goals
    go_ret
    exact ⟨_, rfl, by rw [HA.out]; rfl, HX.out⟩
theorem contains_pows {S : Nat → Prop} (g : Nat) (pb : Value) (eg : ∀ args w, (callFunc g args).run Tryz.prog w = .ok (.enter g args) w) (pr : Int × Int → Bool) (ls : List (Int × Int)) (v : Value) (w : World) (h : Pows S w v ls) (hS : ∀ k, S k → k < w.heap.size)
  (hI : ∀ (t : Int × Int) (W : World), t ∈ ls → Ext w W → Calls Tryz.prog g #[.agg #[.int .i64 t.1, .int .i64 t.2], pb] W fun e W' => e = .returned (.bool (pr t)) ∧ Ext W W') :
  Calls Tryz.prog 131 #[v, .func (.func g) #[] #[pb]] w fun e w' => e = .returned (.bool (ls.any pr)) ∧ Ext w w' := by
 have CI := hid (index_pows g pb eg pr ls v w h hS hI)
 obtain ⟨a, c, rfl⟩ := h.form
 obtain ⟨n, hn⟩ : ∃ n, n = ls.length := ⟨_, rfl⟩
 rw [← hn] at CI ⊢
 clear h hI hn
 go_enter Tryz.func131, Tryz.ntmps131
 go_wp2_with fail
 with_reducible refine CI.out.mono ?_
 rintro e w1 ⟨i, rfl, hi, hx1⟩
 have HX1 := hid hx1
 have HI := hid hi
 clear hx1 hi
 go_wp2
 all_goals
  go_ret
  exact ⟨by first | rfl | (rw [HI.out]; rfl), HX1.out⟩
theorem index_terms {S : Nat → Prop} (g : Nat) (pb : Value) (eg : ∀ args w, (callFunc g args).run Tryz.prog w = .ok (.enter g args) w) (pr : RTerm → Bool) (ls : List (RTerm)) (v : Value) (w : World) (h : Terms S w v ls) (hS : ∀ k, S k → k < w.heap.size)
  (hI : ∀ (t : RTerm) (vm vo : Value) (W : World), t ∈ ls → Ext w W → U32s S W vm t.c.mag → Pows S W vo t.m → Calls Tryz.prog g #[.agg #[.bool t.c.neg, vm, vo], pb] W fun e W' => e = .returned (.bool (pr t)) ∧ Ext W W') :
  Calls Tryz.prog 147 #[v, .func (.func g) #[] #[pb]] w (IdxPost (ls.any pr) w) := by
 have HP := hid h
 have HI := hid hI
 have hll := h.len_le
 obtain ⟨a, c, rfl⟩ := h.form
 obtain ⟨n, hn⟩ : ∃ n, n = ls.length := ⟨_, rfl⟩
 rw [← hn] at HP hll ⊢
 have HN := hid hn
 clear h hI hn
 go_enter Tryz.func147, Tryz.ntmps147
 go_wp2
 go_loopw [8] (fun i wr => ∃ k : Nat, k ≤ n ∧ i = .int .i64 (k : Nat) ∧ Ext w wr ∧ Hid ((ls.take k).any pr = false)) (fun i _ => n - (intOf i).toNat)
 case atStart => exact ⟨0, Nat.zero_le _, rfl, Ext.refl _, rfl⟩
 case round =>
  obtain ⟨k, hk, rfl, hx, HF⟩ := hrel
  have HX := hid hx
  by_cases hlt : k < n
  ·obtain ⟨t, hp⟩ := some_of_lt (l := ls) (j := k) (by rw [← HN.out]; exact hlt)
   obtain ⟨b, o, vm, vo, rfl, -, h2, h3, -, h5, h6, h7, h8, h9⟩ := (HP.out.ext hx hS).cellAt hp
   have CP := hid (HI.out t vm vo wr (List.mem_of_getElem? hp) hx h8 h9)
   have HMP := hid (List.mem_of_getElem? hp)
   have HTK : Hid (ls.take (k + 1) = ls.take k ++ [t]) := hid (by rw [List.take_add_one, hp]; rfl)
   obtain ⟨am, cm, rfl⟩ := h8.form
   obtain ⟨ao, co, rfl⟩ := h9.form
   clear h8 h9
   obtain ⟨tt, ht⟩ : ∃ z, z = pr t := ⟨_, rfl⟩
   rw [← ht] at CP
   have HT := hid ht
   clear hp ht hx
   go_wp2_with fail
   with_reducible refine CP.out.mono ?_
   rintro e w1 ⟨rfl, hx1⟩
   have HX1 := hid (HX.out.trans hx1)
   clear hx1
   cases tt with
   | true =>
    go_wp2
    all_goals
     go_ret
     refine ⟨_, rfl, ?_, HX1.out⟩
     rw [List.any_eq_true.2 ⟨t, HMP.out, HT.out.symm⟩]
     exact decide_eq_true (by omega)
   | false =>
    go_wp2
    go_roundw
    case rel =>
     refine ⟨k + 1, by omega, by go_num, HX1.out, ?_⟩
     show (ls.take (k + 1)).any pr = false
     rw [HTK.out, List.any_append, HF.out]
     simp [← HT.out]
    case measure => simp only [intOf]; omega
  ·obtain rfl : k = n := by omega
   have HA : Hid (ls.any pr = false) := hid (by have h := HF.out; rwa [List.take_of_length_le (by rw [← HN.out]; exact Nat.le_refl _)] at h)
   go_wp2
   all_goals
    go_ret
    exact ⟨_, rfl, by rw [HA.out]; rfl, HX.out⟩
theorem contains_terms {S : Nat → Prop} (g : Nat) (pb : Value) (eg : ∀ args w, (callFunc g args).run Tryz.prog w = .ok (.enter g args) w) (pr : RTerm → Bool) (ls : List (RTerm)) (v : Value) (w : World) (h : Terms S w v ls) (hS : ∀ k, S k → k < w.heap.size)
  (hI : ∀ (t : RTerm) (vm vo : Value) (W : World), t ∈ ls → Ext w W → U32s S W vm t.c.mag → Pows S W vo t.m → Calls Tryz.prog g #[.agg #[.bool t.c.neg, vm, vo], pb] W fun e W' => e = .returned (.bool (pr t)) ∧ Ext W W') :
  Calls Tryz.prog 129 #[v, .func (.func g) #[] #[pb]] w fun e w' => e = .returned (.bool (ls.any pr)) ∧ Ext w w' := by
 have CI := hid (index_terms g pb eg pr ls v w h hS hI)
 obtain ⟨a, c, rfl⟩ := h.form
 obtain ⟨n, hn⟩ : ∃ n, n = ls.length := ⟨_, rfl⟩
 rw [← hn] at CI ⊢
 clear h hI hn
 go_enter Tryz.func129, Tryz.ntmps129
 go_wp2_with fail
 with_reducible refine CI.out.mono ?_
 rintro e w1 ⟨i, rfl, hi, hx1⟩
 have HX1 := hid hx1
 have HI := hid hi
 clear hx1 hi
 go_wp2
 all_goals
  go_ret
  exact ⟨by first | rfl | (rw [HI.out]; rfl), HX1.out⟩
theorem side_has {S : Nat → Prop} (vp : Value) (ts : List RTerm) (x : Int) (w : World) (h : Terms S w vp ts) (hS : ∀ k, S k → k < w.heap.size) :
  Calls Tryz.prog 106 #[vp, .int .i64 x] w fun e w' => e = .returned (.bool (hasV x ts)) ∧ Ext w w' := by
 have hmf : ∀ (fn : Fn) (first cap : Array Value) (w : World), (Instr.makeFunc fn first cap).run Tryz.prog w = .ok (.func fn first cap) w := fun _ _ _ _ => rfl
 obtain ⟨w0, hw0⟩ : ∃ Y, Y = w.alloc (.cells #[.int .i64 x] 3) := ⟨_, rfl⟩
 have hx0 : Ext w w0 := by rw [hw0]; exact Ext.alloc (Ext.refl _) _
 have HX0 := hid hx0
 have hcb : w0.cell? ⟨w.heap.size, 0, none⟩ = some (.int .i64 x) := by rw [hw0]; exact cell_new w _ _ rfl rfl
 have HCB := hid hcb
 have C := hid (contains_terms (S := S) 130 (.pointer (some ⟨w.heap.size, 0, none⟩)) (enters_of Tryz.func130 (by kernel_rfl) rfl) (fun t => hasM x t.m) ts vp w0 (h.ext hx0 hS) (lt_ext hS hx0) (fun t vm vo W _ hW hm ho => by
  obtain ⟨W1, hW1⟩ : ∃ Y, Y = W.alloc (.cells #[.bool t.c.neg, vm, vo] 49) := ⟨_, rfl⟩
  have hx1 : Ext W W1 := by rw [hW1]; exact Ext.alloc (Ext.refl _) _
  have HX1 := hid hx1
  have hSW := lt_ext hS ((HX0.out.trans hW).trans hx1)
  have c0 : W1.cell? ⟨W.heap.size, 2, none⟩ = some vo := by rw [hW1]; exact cell_new W _ _ rfl rfl
  have CB := HCB.out
  have D := hid (contains_pows (S := S) 132 (.pointer (some ⟨w.heap.size, 0, none⟩)) (enters_of Tryz.func132 (by kernel_rfl) rfl) (fun y => decide (y.1 = x)) t.m vo W1 (ho.ext hx1 (lt_ext hS (HX0.out.trans hW))) hSW (fun y Y _ hY => by
   obtain ⟨y1, y2⟩ := y
   have d0 := ((hW.trans hx1).trans hY).cell CB
   have d1 : (Y.alloc (.cells #[.int .i64 y1, .int .i64 y2] 51)).cell? ⟨Y.heap.size, 0, none⟩ = some (.int .i64 y1) := cell_new Y _ _ rfl rfl
   have d2 := cell_old (.cells #[.int .i64 y1, .int .i64 y2] 51) d0
   have q1 : (y1 == x) = decide (y1 = x) := by rw [Bool.eq_iff_iff]; simp
   have HXY := hid (Ext.alloc (Ext.refl Y) (.cells #[.int .i64 y1, .int .i64 y2] 51))
   clear hm ho hx1 hW hY
   go_enter Tryz.func132, Tryz.ntmps132
   go_wp2
   all_goals
    go_ret
    exact ⟨by first | rfl | simp, HXY.out⟩))
  obtain ⟨am, cm, rfl⟩ := hm.form
  obtain ⟨ao, co, rfl⟩ := ho.form
  have e : hasM x t.m = t.m.any (fun y => decide (y.1 = x)) := rfl
  rw [← e] at D
  rw [hW1] at D c0
  clear hm ho hx1 hW e hW1 CB
  go_enter Tryz.func130, Tryz.ntmps130
  go_wp2_with fail
  with_reducible refine D.out.mono ?_
  rintro e w1 ⟨rfl, hx1⟩
  have HX2 := hid ((Ext.alloc (Ext.refl W) _).trans hx1)
  clear hx1
  go_wp2
  all_goals
   go_ret
   exact ⟨rfl, HX2.out⟩))
 rw [hw0] at C
 have e : hasV x ts = ts.any (fun t => hasM x t.m) := rfl
 rw [e]
 obtain ⟨a, c, rfl⟩ := h.form
 obtain ⟨n, hn⟩ : ∃ n, n = ts.length := ⟨_, rfl⟩
 rw [← hn] at C ⊢
 clear h hn e hcb hx0 hw0
 go_enter Tryz.func106, Tryz.ntmps106
 go_wp2_with fail
 with_reducible refine C.out.mono ?_
 rintro e w1 ⟨rfl, hx1⟩
 have HX2 := hid ((Ext.alloc (Ext.refl w) _).trans hx1)
 clear hx1
 go_wp2
 all_goals
  go_ret
  exact ⟨rfl, HX2.out⟩
end
section
open Go.RowKit
section
variable {W W' : World} {bd : Nat} {vm vg vh vq vr : Value} {v d n : Int} {keep : Bool}
end
end
section
open Go.RowKit
section
variable {W : World} {bd : Nat} {vm vg vh vq vr vp vo : Value} {v d n : Int} {keep : Bool} {h p q : PZ} {A B T M L l : Nat}
end
end
section
open Go.RowKit
section
variable {o : Option Nat} {bd : Nat} {A B C W W' : World} {v : Value} {p : PZ} {s : MSt}
end
end
section
section
variable {g f : PZ} {v : Int}
/-! By a meter as without one -/
end
end
section
section
variable {a b c : PZ}
end
section
variable {p g f : PZ} {v : Int}
end
end
section
section
variable {g f h q r : PZ} {v d : Int} {o : Option Nat} {keep : Bool} {B M : Nat}
end
end
section
open Go.RowKit
end
section
open Go.RowKit
end
section
open Go.RowKit
section
variable {W : World} {o : Option Nat} {s : MSt} {vf vg : Value} {v : Int} {f g : PZ} {A B T M : Nat}
end
section
variable {W : World} {vm vf vg : Value} {v : Int} {fs gs : List RTerm}
end
end
section
open Go.RowKit
end
section
open Go.RowKit
section
variable {W : World} {vf vg : Value} {v : Int} {f g : PZ} {A B T M : Nat}
end
end
section
open Go.RowKit
section
variable {W Y Y' : World} {S : Nat → Prop} {o : Option Nat} {u v : Value} {p q : PZ} {k l n m : Nat}
end
section
variable {o : Option Nat} {keep : Bool} {g h q r : PZ} {v d c1 c2 c3 : Int} {s s1 s2 s3 : MSt} {x : PZ × PZ}
end
end
section
open Go.RowKit
end
section
open Go.RowKit
end
section
open Go.RowKit
end
section
open Go.RowKit
section
variable {F G : PZ} {x : Int}
end
end
section
open Go.RowKit Go.Deep Go.ChangeShapes Go.WideShapes Go.ChangeAt Go.Joins
section
variable {H : Type} {enc : TypeId × Value → H} {P : Program} {w : World} {base : Nat} {spare : Nat → Bool} {held : Bool}
end
section
variable {H : Type} {enc : TypeId × Value → H} {W : World} {base b0 : Nat} {sp : Nat → Bool} {held : Bool}
theorem int_arg12 {fuel : Nat} {v : Value} {x : DataW H × List MemPlace} (hv : Value.okWide Tryz.prog W .any base 3 v) (h : DataW.trod enc Tryz.prog W b0 sp held fuel 3 v.cells.toList = some x) : ∃ n, v = .int .i64 n ∧ inI64 n := by
 obtain ⟨n, rfl⟩ := okWide_int Tryz.underlying3 hv
 obtain ⟨m, e, -, hw⟩ := DataW.trod_int Tryz.underlying3 h
 have e' : [Value.int .i64 n] = [.int .i64 m] := e
 obtain rfl : n = m := by simpa using e'
 exact ⟨n, rfl, bounds_i64 hw⟩
end
end
section
open Go.RowKit Go.Deep Go.ChangeShapes Go.WideShapes Go.ChangeAt Go.Joins
theorem Tryz.cells_layout : Tryz.prog.cellsOf 35 = 4 := by kernel_rfl
theorem Tryz.cells_coord : Tryz.prog.cellsOf 87 = 2 := by kernel_rfl
theorem Tryz.cells_string : Tryz.prog.cellsOf 9 = 1 := by kernel_rfl
theorem Tryz.cells_sstring : Tryz.prog.cellsOf 32 = 1 := by kernel_rfl
theorem Tryz.cells_scoord : Tryz.prog.cellsOf 33 = 1 := by kernel_rfl
section
variable {H : Type} {enc : TypeId × Value → H} {w : World} {base : Nat} {spare : Nat → Bool} {held : Bool}
theorem open_strs {fuel : Nat} {v : Value} {x : DataW H × List MemPlace} (h : DataW.trod enc Tryz.prog w base spare held fuel 32 [v] = some x) : ∃ l, Strs (· < w.heap.size) w v l := by
 obtain ⟨n, b, off, f', hs, hx⟩ := open_slice_at Tryz.underlying32 Tryz.cells_string (by omega) h
 obtain ⟨l, hl, hp⟩ := list_of_lt (p := fun j (z : ByteArray) => w.cell? ⟨b, off + j, none⟩ = some (.string z)) (n := n) (fun j hj => by
  obtain ⟨cs, y, h1, h2, h3⟩ := hx j hj
  obtain ⟨s, rfl, _, _⟩ := DataW.trod_string Tryz.underlying9 h3
  have h4 := h2 0 (by omega)
  simp only [Nat.mul_one, Nat.add_zero] at h4
  exact ⟨s, by rw [h4]; rfl⟩)
 subst hl
 exact ⟨l, b, off, hs, hp⟩
theorem open_coords {fuel : Nat} {v : Value} {x : DataW H × List MemPlace} (h : DataW.trod enc Tryz.prog w base spare held fuel 33 [v] = some x) : ∃ ps, Pows (· < w.heap.size) w v ps := by
 obtain ⟨n, b, off, f', hs, hx⟩ := open_slice_at Tryz.underlying33 Tryz.cells_coord (by omega) h
 obtain ⟨ps, hl, hp⟩ := list_of_lt (p := fun j (x : Int × Int) => ((-9223372036854775808 ≤ x.1 ∧ x.1 ≤ 9223372036854775807) ∧ -9223372036854775808 ≤ x.2 ∧ x.2 ≤ 9223372036854775807) ∧
  w.cell? ⟨b, off + j * 2, none⟩ = some (.int .i64 x.1) ∧ w.cell? ⟨b, off + j * 2 + 1, none⟩ = some (.int .i64 x.2)) (n := n) (fun j hj => by
  obtain ⟨cs, y, h1, h2, h3⟩ := hx j hj
  obtain ⟨y0, y1, m, _, _, g0, g1⟩ := trod_struct2 Tryz.underlying87 h3
  obtain ⟨n0, e0, _, w0⟩ := DataW.trod_int Tryz.underlying3 g0
  obtain ⟨n1, e1, _, w1⟩ := DataW.trod_int Tryz.underlying3 g1
  obtain ⟨c0, c1, rfl⟩ := list_two h1
  simp [Tryz.cells_i64] at e0 e1
  subst e0 e1
  exact ⟨(n0, n1), ⟨bounds_i64 w0, bounds_i64 w1⟩, h2 0 (by omega), h2 1 (by omega)⟩)
 subst hl
 exact ⟨ps, b, off, hs, hp⟩
end
section
variable {H : Type} {enc : TypeId × Value → H} {W : World} {base b0 : Nat} {sp : Nat → Bool} {held : Bool}
theorem layout_arg {v : Value} {d : DataW H} {p : List MemPlace} (hv : Value.okWide Tryz.prog W .any base 35 v) (h : DataW.Trod enc Tryz.prog W b0 sp held 35 v d p) :
  ∃ x : Lay, LayV (Old W) W v x ∧ inI64 x.par ∧ inI64 x.vrs := by
 obtain ⟨cs, rfl, hsz⟩ := okWide_struct Tryz.underlying35 hv
 obtain ⟨c0, c1, c2, c3, rfl⟩ := array4 (hsz.trans Tryz.cells_layout)
 obtain ⟨fuel, hf⟩ := h
 obtain ⟨y0, y1, y2, y3, n, _, _, h0, h1, h2, h3⟩ := trod_struct4 Tryz.underlying35 hf
 simp [Tryz.cells_i64, Tryz.cells_sstring, Tryz.cells_scoord, Value.cells] at h0 h1 h2 h3
 obtain ⟨n2, e2, _, w2⟩ := DataW.trod_int Tryz.underlying3 h2
 obtain ⟨n3, e3, _, w3⟩ := DataW.trod_int Tryz.underlying3 h3
 simp at e2 e3
 subst e2 e3
 obtain ⟨l, hl⟩ := open_strs h0
 obtain ⟨ps, hps⟩ := open_coords h1
 exact ⟨⟨l, ps, n2, n3⟩, ⟨c0, c1, rfl, hl, hps⟩, bounds_i64 w2, bounds_i64 w3⟩
end
end
section
open Go.RowKit
def BoxD (wr W : World) (b : Nat) (u v : Value) (l : List Nat) : Prop := W.cell? ⟨b, 0, none⟩ = some u ∧ W.cell? ⟨b, 1, none⟩ = some v ∧ Digs (New wr W) W v l ∧ Ext wr W ∧ wr.heap.size ≤ b
abbrev Mid0 (n : Nat) (w5 : World) : Nat → Prop := fun k => n ≤ k ∧ k < w5.heap.size
section
variable {wr w5 : World} {u v u' v' x0 x1 x2 x3 : Value} {T T' : TypeId} {l : List Nat} {n b b' : Nat}
theorem fin_a (hx : Ext wr w5) (hd : Digs (New wr w5) w5 v l) : BoxD wr ((w5.alloc (.cells #[u, v] T)).alloc (.cells #[u', v'] T')) w5.heap.size u v l :=
 have h2 := (Ext.alloc (Ext.refl w5) (.cells #[u, v] T)).alloc (.cells #[u', v'] T')
 ⟨cell_old _ (cell_new _ _ _ rfl rfl), cell_old _ (cell_new _ _ _ rfl rfl), hd.to (Kept.ext h2 New.lt) (fun _ h => ⟨h.1, Nat.lt_of_lt_of_le h.2 h2.size⟩), hx.trans h2, hx.size⟩
theorem fin_b (hx : Ext wr w5) (hd : Digs (New wr w5) w5 v l) : BoxD wr ((w5.alloc (.cells #[u', v'] T')).alloc (.cells #[u, v] T)) (w5.heap.size + 1) u v l :=
 have h2 := (Ext.alloc (Ext.refl w5) (.cells #[u', v'] T')).alloc (.cells #[u, v] T)
 ⟨cell_new _ _ _ (by rw [size_alloc]) rfl, cell_new _ _ _ (by rw [size_alloc]) rfl, hd.to (Kept.ext h2 New.lt) (fun _ h => ⟨h.1, Nat.lt_of_lt_of_le h.2 h2.size⟩), hx.trans h2, Nat.le_succ_of_le hx.size⟩
theorem set2_kept (hb : b < n) : Kept (Mid0 n w5) w5 ((w5.setCell ⟨b, 0, none⟩ x0).setCell ⟨b, 1, none⟩ x1) := Kept.set2 (fun h => by have := h.1; omega) _ _
theorem fin_c (hx : Ext wr w5) (hb : wr.heap.size ≤ b) (hbn : b < n) (hn : wr.heap.size ≤ n) (hd : Digs (Mid0 n w5) w5 v l) (y0 : w5.cell? ⟨b, 0, none⟩ = some x0) (y1 : w5.cell? ⟨b, 1, none⟩ = some x1) (o : Obj) : BoxD wr (((w5.setCell ⟨b, 0, none⟩ u).setCell ⟨b, 1, none⟩ v).alloc o) b u v l := by
 have k := two_set u v y0 y1
 have hx2 := (hx.set2 hb u v).alloc o
 refine ⟨cell_old _ k.1, cell_old _ k.2, (hd.to (set2_kept hbn) (fun _ h => h)).to (Kept.alloc (fun k h => by simp only [size_setCell]; exact h.2) _) (fun k h => ⟨Nat.le_trans hn h.1, Nat.lt_of_lt_of_le h.2 ?_⟩), hx2, hb⟩
 simp only [size_alloc, size_setCell]
 omega
theorem fin_d (hx : Ext wr w5) (hb : wr.heap.size ≤ b) (hbn : b < n) (hn : wr.heap.size ≤ n) (hd : Digs (Mid0 n w5) w5 v l) : BoxD wr (((w5.setCell ⟨b, 0, none⟩ x2).setCell ⟨b, 1, none⟩ x3).alloc (.cells #[u, v] T)) w5.heap.size u v l := by
 have hx2 := (hx.set2 hb x2 x3).alloc (.cells #[u, v] T)
 refine ⟨cell_new _ _ _ (by simp only [size_setCell]) rfl, cell_new _ _ _ (by simp only [size_setCell]) rfl, (hd.to (set2_kept hbn) (fun _ h => h)).to (Kept.alloc (fun k h => by simp only [size_setCell]; exact h.2) _) (fun k h => ⟨Nat.le_trans hn h.1, Nat.lt_of_lt_of_le h.2 ?_⟩), hx2, hx.size⟩
 simp only [size_alloc, size_setCell]
 omega
theorem fin_e (hx : Ext wr w5) (hb : wr.heap.size ≤ b) (hb' : wr.heap.size ≤ b') (hbn : b < n) (hbn' : b' < n) (hne : b' ≠ b) (hn : wr.heap.size ≤ n) (hd : Digs (Mid0 n w5) w5 v l) (y0 : w5.cell? ⟨b, 0, none⟩ = some x0) (y1 : w5.cell? ⟨b, 1, none⟩ = some x1) : BoxD wr ((((w5.setCell ⟨b, 0, none⟩ u).setCell ⟨b, 1, none⟩ v).setCell ⟨b', 0, none⟩ x2).setCell ⟨b', 1, none⟩ x3) b u v l := by
 have k := two_set u v y0 y1
 exact ⟨other (other k.1 (ab hne)) (ab hne), other (other k.2 (ab hne)) (ab hne), (hd.to (set2_kept hbn) (fun _ h => h)).to (Kept.set2 (fun h => by have := h.1; omega) _ _) (fun k h => ⟨Nat.le_trans hn h.1, by simp only [size_setCell]; exact h.2⟩), (hx.set2 hb u v).set2 hb' x2 x3, hb⟩
theorem mid1 {o : Obj} (h : Digs (New ((wr.alloc o).drew) w5) w5 v l) : Digs (Mid0 (wr.heap.size + 1) w5) w5 v l := h.to (Kept.refl _ _) (fun k h => ⟨by have := h.1; rwa [show ((wr.alloc o).drew).heap.size = wr.heap.size + 1 from size_alloc ..] at this, h.2⟩)
theorem mid2 {o o' : Obj} (h : Digs (New (((wr.alloc o).alloc o').drew) w5) w5 v l) : Digs (Mid0 (wr.heap.size + 1 + 1) w5) w5 v l := h.to (Kept.refl _ _) (fun k h => ⟨by have := h.1; rwa [show (((wr.alloc o).alloc o').drew).heap.size = wr.heap.size + 1 + 1 from by show ((wr.alloc o).alloc o').heap.size = _; rw [size_alloc, size_alloc]] at this, h.2⟩)
theorem box_grown {wc : World} {base size m i : Nat} {e : TypeId} {xs : List Value} {o : Value} {C : Obj} (hg : ((wc.alloc C).drew).grownBy w5 o.ownBlock) (hw : wr.ownsRow base e size o m xs) (hb : wr.heap.size ≤ b) (h : wc.cell? ⟨b, i, none⟩ = some u) : w5.cell? ⟨b, i, none⟩ = some u :=
 grown_cell hg (cell_old C h) (fun e => by have := (hw.lt b e.symm).2; omega)
end
theorem rpoly_wholeF {S : Nat → Prop} (v : Value) (p : PZ) (w : World) (h : RTs S w v p) (hS : ∀ k, S k → k < w.heap.size) (hsz : szP p) (hnz : ∀ t ∈ p, t.1 ≠ 0) :
  Calls Tryz.prog 56 #[v] w fun e w' => ∃ v', e = .returned v' ∧ RTs (Plus S w w') w' v' (wholeF p) ∧ Ext w w' := by
 obtain ⟨j0, hj, jz0, jz1, jz2⟩ := info_parts Tryz.infoT
 have hl := h.len_le
 have H := hid h
 have HSZ := hid hsz
 have HNZ := hid hnz
 have C0 := rpoly_content v p w h hS hsz
 obtain ⟨a, cap, rfl⟩ := h.form
 obtain ⟨np, hnp⟩ : ∃ n, n = p.length := ⟨_, rfl⟩
 rw [← hnp] at H hl C0 ⊢
 have C0 := hid C0
 have HNP := hid hnp
 clear h hsz hnp hnz
 go_enter Tryz.func56, Tryz.ntmps56
 go_wp2_with fail
 refine C0.out.mono ?_
 rintro e w1 ⟨v1, rfl, hz1, hx1⟩
 obtain ⟨vd1, e1, hd1⟩ := hz1
 subst e1
 rw [Int.natAbs_natCast] at hd1
 have hcl : (rep 10 (contF p)).length ≤ 2000000 := contF_sz HSZ.out
 obtain ⟨a1, c1, e2⟩ := hd1.form
 subst e2
 obtain ⟨n1, hn1⟩ : ∃ n, n = (rep 10 (contF p)).length := ⟨_, rfl⟩
 rw [← hn1] at hd1 ⊢
 rw [show decide (((contF p : Nat) : Int) < 0) = false from decide_eq_false (by omega)]
 have HD1 := hid hd1
 have HX1 := hid hx1
 obtain ⟨w2, hw2⟩ : ∃ Y, Y = w1.alloc (.cells #[.bool false, .slice a1 n1 c1] 56) := ⟨_, rfl⟩
 obtain ⟨b3, hb3⟩ : ∃ b, b = w1.heap.size := ⟨_, rfl⟩
 have HB3 := hid hb3
 have HC2 : Hid (w2.cell? ⟨b3, 0, none⟩ = some (.bool false) ∧ w2.cell? ⟨b3, 1, none⟩ = some (.slice a1 n1 c1) ∧ w2.frozen? ⟨b3, 0, none⟩ = false ∧ w2.frozen? ⟨b3, 1, none⟩ = false) := hid (by
  rw [hw2, hb3]
  exact ⟨cell_new _ _ _ rfl rfl, cell_new _ _ _ rfl rfl, free_new _ _ _, free_new _ _ _⟩)
 have HX2 : Hid (Ext w1 w2) := hid (by rw [hw2]; exact Ext.alloc (Ext.refl _) _)
 have HCL := hid hcl
 have HPL := hid (plus_lt hS hx1)
 have CN := hid (fun (W : World) (hW : Ext w1 W) (h0 : contF p ≠ 0) => (show Calls Tryz.prog 93 #[.agg #[.bool false, .slice a1 n1 c1]] W fun e w' => e = .returned (.agg #[.bool true, .slice a1 n1 c1]) ∧ Ext W w' from by
  have hh := zed_neg (S := Plus S w w1) (.slice a1 n1 c1) (contF p : Nat) W (by rw [Int.natAbs_natCast]; exact HD1.out.to (Kept.ext hW HPL.out) (fun _ h => h))
  rw [decide_eq_false (show ¬ ((contF p : Nat) : Int) < 0 by omega), decide_eq_true (show -((contF p : Nat) : Int) < 0 by omega)] at hh
  exact hh))
 clear hd1 hx1 hcl hn1
 go_upto_region 2 with fail
 rw [← hb3]
 rw [← hw2]
 clear hb3 hw2
 by_cases h0 : p = []
 ·have hn0 : np = 0 := by rw [HNP.out, h0]; rfl
  have HE := hid h0
  subst hn0
  clear h0
  go_wp2
  go_loopw [4, 5] (fun o i wr => o = .slice none 0 0 ∧ i = .int .i64 0 ∧ Hid (Ext w2 wr)) (fun _ _ _ => 0)
  case atStart => exact ⟨rfl, rfl, hid (Ext.refl _)⟩
  case round =>
   obtain ⟨rfl, rfl, HX⟩ := hrel
   go_wp2
   all_goals
    go_ret
    refine ⟨_, rfl, ?_, HX1.out.trans (HX2.out.trans HX.out)⟩
    rw [HE.out]
    exact RTs.nilv _ _ _ _ (by omega)
 obtain ⟨t0, r, hp⟩ := List.exists_cons_of_ne_nil h0
 have ht : p[0]? = some t0 := by rw [hp]; rfl
 have htm : t0 ∈ p := by rw [hp]; exact List.mem_cons_self ..
 have hnp0 : 0 < np := by rw [HNP.out, hp]; simp
 obtain ⟨b0, off0, vd, vo, rfl, -, hn1, hm1, hSb, h1, h2, h3, h4, h5⟩ := H.out.cellAt ht
 simp only [Nat.zero_mul, Nat.add_zero] at h1 h2
 obtain ⟨ad, cd, rfl⟩ := h4.form
 obtain ⟨bt, hbt⟩ : ∃ b, b = decide (t0.1 < 0) := ⟨_, rfl⟩
 obtain ⟨nt, hnt⟩ : ∃ n, n = (rep 10 t0.1.natAbs).length := ⟨_, rfl⟩
 rw [← hbt] at h1
 rw [← hnt] at h2 h4
 have HX0 := hid (HX1.out.trans HX2.out)
 have g1 := HX0.out.cell h1
 have g2 := HX0.out.cell h2
 have C1 := zed_sign (S := S) (.agg #[.bool bt, .slice ad nt cd]) t0.1 w2 ⟨_, by rw [hbt], h4.to (Kept.ext HX0.out hS) (fun _ h => h)⟩
 have hz := HNZ.out t0 htm
 have HPN := hid h0
 have hcz : contF p ≠ 0 := by
  have g := sgF_ne h0 HNZ.out
  have g2 := sgF_abs h0
  omega
 have HCZ := hid hcz
 rcases Int.lt_or_gt_of_ne hz with hneg | hpos
 ·have HSG : Hid (true = decide (sgF p < 0)) := hid (by
   have e : sgF p = -(contF p : Int) := by rw [hp]; exact if_pos hneg
   rw [e]
   exact (decide_eq_true (by omega)).symm)
  rw [show signI t0.1 = -1 from by unfold signI cmpI; rw [if_pos hneg]] at C1
  have C1 := hid C1
  clear h0 hp ht htm h1 h2 h3 h4 h5 hbt hnt hz hcz hneg hSb
  go_wp2_with fail
  refine C1.out.mono ?_
  rintro e w3 ⟨rfl, hx3⟩
  have HX3 := hid (HX2.out.trans hx3)
  have k0 := hx3.cell HC2.out.1
  have k1 := hx3.cell HC2.out.2.1
  have HK0 := hid hx3
  clear hx3 g1 g2
  go_wp2_with fail
  refine (CN.out _ HX3.out HCZ.out).mono ?_
  rintro e w4 ⟨rfl, hx4⟩
  have HX4 := hid (HX3.out.trans hx4)
  have z0 := hx4.cell k0
  have z1 := hx4.cell k1
  have zf0 := (HK0.out.trans hx4).free (lt_of_cell HC2.out.1) HC2.out.2.2.1
  have zf1 := (HK0.out.trans hx4).free (lt_of_cell HC2.out.1) HC2.out.2.2.2
  have HZ4 := hid (And.intro z0 z1)
  clear hx4 k0 k1
  obtain ⟨bs, hbs⟩ : ∃ b : Bool, b = true := ⟨_, rfl⟩
  obtain ⟨wx, hwx⟩ : ∃ Y, Y = (w4.setCell ⟨b3, 0, none⟩ (.bool true)).setCell ⟨b3, 1, none⟩ (.slice a1 n1 c1) := ⟨_, rfl⟩
  have HZ : Hid (wx.cell? ⟨b3, 0, none⟩ = some (.bool bs) ∧ wx.cell? ⟨b3, 1, none⟩ = some (.slice a1 n1 c1)) := hid (by rw [hwx, hbs]; exact two_set _ _ HZ4.out.1 HZ4.out.2)
  have HXx : Hid (Ext w1 wx) := hid (by rw [hwx]; exact HX4.out.set2 (by rw [HB3.out]; exact Nat.le_refl _) _ _)
  have HBS : Hid (bs = decide (sgF p < 0)) := hid (by rw [hbs]; exact HSG.out)
  go_upto_region 4 with fail
  rw [← hwx]
  clear hwx hbs HSG
  go_wp2
  go_loopw [4, 5] (fun o i wr => ∃ k xs, k ≤ np ∧ i = .int .i64 (k : Nat) ∧ Hid (Ext wx wr) ∧ Hid (wr.ownsRow wx.heap.size 95 3 o k xs) ∧ Hid (Cells3 (SOff S wx wr o) wr xs ((wholeF p).take k))) (fun _ i _ => np - (intOf i).toNat)
  case atStart => exact ⟨0, [], Nat.zero_le _, rfl, hid (Ext.refl _), hid (World.ownsRow_nil _ _ _ _), hid rfl⟩
  case round =>
   obtain ⟨k, xs, hk, rfl, HX, HW, HXS⟩ := hrel
   have HXW := hid (HX1.out.trans (HXx.out.trans HX.out))
   by_cases hlt : k < np
   ·obtain ⟨t, ht⟩ := some_of_lt (l := p) (j := k) (by rw [← HNP.out]; exact hlt)
    have htm := List.mem_of_getElem? ht
    obtain ⟨b, off, vd, vo, e0, -, hn1, hm1, hSb, h1, h2, h3, h4, h5⟩ := H.out.cellAt ht
    obtain ⟨rfl, rfl⟩ : b0 = b ∧ off0 = off := by simpa using e0
    have HT := hid (wholeF_at ht)
    have HTZ := hid (HSZ.out.2 t htm)
    obtain ⟨q, hq⟩ : ∃ q, q = t.1 / sgF p := ⟨_, rfl⟩
    have HQ : Hid (t.1 = q * sgF p) := hid (by rw [hq]; exact (Int.ediv_mul_cancel (sgF_dvd htm)).symm)
    rw [← hq] at HT
    obtain ⟨ad, cd, rfl⟩ := h4.form
    obtain ⟨ao, co, rfl⟩ := h5.form
    obtain ⟨bt, hbt⟩ : ∃ b, b = decide (t.1 < 0) := ⟨_, rfl⟩
    obtain ⟨nt, hnt⟩ : ∃ n, n = (rep 10 t.1.natAbs).length := ⟨_, rfl⟩
    obtain ⟨nm, hnm⟩ : ∃ n, n = t.2.length := ⟨_, rfl⟩
    obtain ⟨bq, hbq⟩ : ∃ b, b = decide (q < 0) := ⟨_, rfl⟩
    obtain ⟨nq, hnq⟩ : ∃ n, n = (rep 10 q.natAbs).length := ⟨_, rfl⟩
    rw [← hbt] at h1
    rw [← hnt] at h2 h4
    rw [← hnm] at h3 h5
    have H4 := hid h4
    have H5 := hid h5
    have HBT := hid hbt
    have HBQ := hid hbq
    have CD := hid (fun (W : World) (hW : Ext wr W) => (show Calls Tryz.prog 94 #[.agg #[.bool bt, .slice ad nt cd], .agg #[.bool bs, .slice a1 n1 c1]] W fun e w' => ∃ (aq : Option Addr) (cq : Nat) (a' : Option Addr) (c' : Nat), e = .returned (.tuple #[.agg #[.bool bq, .slice aq nq cq], .agg #[.bool false, .slice a' 0 c']]) ∧ Digs (New W w') w' (.slice aq nq cq) (rep 10 q.natAbs) ∧ Ext W w' from
     (zed_exact (S := Plus S w w1) (.agg #[.bool bt, .slice ad nt cd]) (.agg #[.bool bs, .slice a1 n1 c1]) t.1 (sgF p) q W ⟨_, by rw [HBT.out], H4.out.to (Kept.ext (HXW.out.trans hW) hS) (fun _ h => .inl h)⟩ ⟨_, by rw [HBS.out], by rw [sgF_abs HPN.out]; exact HD1.out.to (Kept.ext (HXx.out.trans (HX.out.trans hW)) HPL.out) (fun _ h => h)⟩ (fun j h => Nat.lt_of_lt_of_le (HPL.out j h) (HXx.out.trans (HX.out.trans hW)).size) HTZ.out (by unfold szZ; rw [sgF_abs HPN.out]; exact HCL.out) HQ.out (sgF_ne HPN.out HNZ.out)).mono (by
      rintro e w' ⟨v', a', c', rfl, ⟨vd', rfl, hd'⟩, hx'⟩
      obtain ⟨aq, cq, rfl⟩ := hd'.form
      rw [← hnq] at hd' ⊢
      exact ⟨aq, cq, a', c', by rw [← hbq], hd', hx'⟩)))
    have HC0 := hid (And.intro h1 (And.intro h2 h3))
    have HXD := hid (show Ext wr wr.drew from (Ext.refl wr).drew)
    have HSS := hid (fun (Y : World) (hY : Ext wr Y) => And.intro ((HXW.out.trans hY).cell HC0.out.1) (And.intro ((HXW.out.trans hY).cell HC0.out.2.1) (And.intro ((HX.out.trans hY).cell HZ.out.1) ((HX.out.trans hY).cell HZ.out.2))))
    clear ht htm h1 h2 h3 h4 h5 hbt hnt hnm hq hbq hnq hSb
    go_upto_region 8 with fail
    go_cut [6] (fun u6 wy => ∃ (b6 : Nat) (aq : Option Addr) (cq : Nat), u6 = .pointer (some ⟨b6, 0, none⟩) ∧ Hid (BoxD wr wy b6 (.bool bq) (.slice aq nq cq) (rep 10 q.natAbs)))
    case first =>
     go_region_held3 (fun Y => Y.cell? ⟨b0, off0 + k * 3, none⟩ = some (.bool bt) ∧ Y.cell? ⟨b0, off0 + k * 3 + 1, none⟩ = some (.slice ad nt cd) ∧ Y.cell? ⟨b3, 0, none⟩ = some (.bool bs) ∧ Y.cell? ⟨b3, 1, none⟩ = some (.slice a1 n1 c1)) ((refine HSS.out _ ?_; repeat (first | exact HXD.out | exact Ext.refl _ | exact HX5.out | refine Ext.alloc ?_ _ | refine Ext.drew ?_ | refine Ext.set2 ?_ (by first | exact Nat.le_refl _ | exact Nat.le_succ _ | (have g := HX5.out.size; omega)) _ _)))
      (first
       | (go_at_call 94; (with_reducible refine (CD.out _ HXD.out).mono ?_); rintro e w5 ⟨aq, cq, a', c', rfl, hd5, hx5⟩; have HX5 := hid (HXD.out.trans hx5); have HX5 := hid (show Ext wr w5 from HX5.out); have HD5 := hid (show Digs (New wr w5) w5 (.slice aq nq cq) (rep 10 q.natAbs) from hd5); clear hx5 hd5)
       | (go_at_call 94; (with_reducible refine (CD.out _ (((Ext.refl wr).alloc _).drew)).mono ?_); rintro e w5 ⟨aq, cq, a', c', rfl, hd5, hx5⟩; have HX5 := hid ((((Ext.refl wr).alloc _).drew).trans hx5); have HD5 := hid (mid1 hd5); obtain ⟨y0, y1, yf0, yf1⟩ := box_a hx5; have ylt := lt_of_cell y0; clear hx5 hd5)
       | (go_at_call 94; (with_reducible refine (CD.out _ ((((Ext.refl wr).alloc _).alloc _).drew)).mono ?_); rintro e w5 ⟨aq, cq, a', c', rfl, hd5, hx5⟩; have HX5 := hid (((((Ext.refl wr).alloc _).alloc _).drew).trans hx5); have HD5 := hid (mid2 hd5); obtain ⟨y0, y1, yf0, yf1, y2, y3, yf2, yf3⟩ := box_b hx5; have ylt := lt_of_cell y0; have ylt2 := lt_of_cell y2; clear hx5 hd5)
       | fail)
     all_goals
      go_wp2_with fail
      go_meet
      first
       | with_reducible exact ⟨_, _, _, rfl, hid (fin_a HX5.out HD5.out)⟩
       | with_reducible exact ⟨_, _, _, rfl, hid (fin_b HX5.out HD5.out)⟩
       | with_reducible exact ⟨_, _, _, rfl, hid (fin_c HX5.out (Nat.le_refl _) (Nat.lt_succ_self _) (Nat.le_succ _) HD5.out y0 y1 _)⟩
       | with_reducible exact ⟨_, _, _, rfl, hid (fin_d HX5.out (Nat.le_refl _) (Nat.lt_succ_self _) (Nat.le_succ _) HD5.out)⟩
       | with_reducible exact ⟨_, _, _, rfl, hid (fin_e HX5.out (Nat.le_refl _) (Nat.le_succ _) (by omega) (Nat.lt_succ_self _) (Nat.succ_ne_self _) (by omega) HD5.out y0 y1)⟩
       | with_reducible exact ⟨_, _, _, rfl, hid (fin_e HX5.out (Nat.le_succ _) (Nat.le_refl _) (Nat.lt_succ_self _) (by omega) (Nat.succ_ne_self _).symm (by omega) HD5.out y2 y3)⟩
       | fail
    case rest =>
     obtain ⟨b6, aq, cq, rfl, HBX⟩ := hcut
     have HX6 := hid HBX.out.2.2.2.1
     have HXW6 := hid (HXW.out.trans HX6.out)
     have S6 : _ ∧ _ ∧ _ := And.intro HBX.out.1 (And.intro HBX.out.2.1 (HXW6.out.cell HC0.out.2.2))
     have HW6 := hid (own_ext HW.out HX6.out)
     have hal := ((Ext.refl wc).alloc (.cells #[.bool bq, .slice aq nq cq, .slice ao nm co] 95)).drew
     have HAL := hid hal
     have HW7 := hid (own_ext HW6.out hal)
     have HSRC7 : Hid (SrcAt (wc.alloc (.cells #[.bool bq, .slice aq nq cq, .slice ao nm co] 95)).drew (some ⟨wc.heap.size, 0, none⟩) 1 3 (#[.bool bq, .slice aq nq cq, .slice ao nm co] : Array Value).toList) := hid (src_one wc #[.bool bq, .slice aq nq cq, .slice ao nm co] 95 (three_cell rfl rfl rfl) (size := 3) rfl)
     have HB5 : Hid (wx.heap.size ≤ (wc.alloc (.cells #[.bool bq, .slice aq nq cq, .slice ao nm co] 95)).drew.heap.size) := hid ((HX.out.trans HX6.out).trans hal).size
     have HB3' : Hid (k + 1 ≤ maxLen) := hid (by have := HSZ.out.1; have := HNP.out; unfold maxLen; omega)
     have HB4' : Hid ((k + 1) * 56 ≤ 140737488355328) := hid (by have := HSZ.out.1; have := HNP.out; omega)
     have HSXX := hid (fun (Y : World) (hY : Ext wr Y) => And.intro ((HXW.out.trans hY).cell HC0.out.2.2) trivial)
     clear hal
     go_wp2
     go_region_held3 (fun Y => Y.cell? ⟨b6, 0, none⟩ = some (.bool bq) ∧ Y.cell? ⟨b6, 1, none⟩ = some (.slice aq nq cq) ∧ Y.cell? ⟨b0, off0 + k * 3 + 2, none⟩ = some (.slice ao nm co)) (first | exact S6 | exact ⟨cell_old _ S6.1, cell_old _ S6.2.1, cell_old _ S6.2.2⟩ | exact S7)
      ((refine step_append_src rfl (.tmp 39) (.tmp 47) 61 rfl wx.heap.size 95 j0 (.agg #[.bool false, .slice none 0 0, .slice none 0 0]) 3 56 Tryz.underlying61 hj jz0 jz1 jz2 rfl (Nat.succ_pos _) _ k xs rfl HW7.out (some ⟨wc.heap.size, 0, none⟩) 1 1 _ rfl HSRC7.out HB3'.out HB4'.out HB5.out ?_; intro v5 w5 hown hg hbk; have HW5 := hid hown; have HG := hid hg; have HBK := hid hbk; have HX5 := hid (own_grown0 ((HX.out.trans HX6.out).trans HAL.out) HW7.out hg); have S7 : _ ∧ _ ∧ _ := And.intro (box_grown hg HW.out HBX.out.2.2.2.2 S6.1) (And.intro (box_grown hg HW.out HBX.out.2.2.2.2 S6.2.1) (((HX1.out.trans HXx.out).trans HX5.out).cell HC0.out.2.2)); clear hown hg hbk))
     all_goals
      go_wp2
      go_roundw
      case rel =>
       refine ⟨k + 1, xs ++ (#[.bool bq, .slice aq nq cq, .slice ao nm co] : Array Value).toList, by omega, by go_num, HX5, HW5, hid ?_⟩
       rw [HT.out]
       have k6 := sOff_ext HXS.out (fun k h => Nat.lt_of_lt_of_le (hS k h) HXW.out.size) HX6.out
       have k7 := sOff_ext k6 (fun k h => Nat.lt_of_lt_of_le (hS k h) HXW6.out.size) HAL.out
       refine (sOff_grown k7 (fun k h => ⟨Nat.lt_of_lt_of_le (hS k h) (HXW6.out.trans HAL.out).size, fun e => ?_⟩) HG.out HBK.out (Nat.le_refl _)).append ?_
       ·have h1 := (HW.out.lt k e.symm).1
        have h2 := Nat.lt_of_lt_of_le (hS k h) (HX1.out.trans HXx.out).size
        omega
       ·rw [HBQ.out]
        refine Cells3.single (t := (q, t.2)) ((HBX.out.2.2.1.to (Kept.ext HAL.out New.lt) (fun _ h => h)).to (Kept.grown HG.out (fun k h => ⟨Nat.lt_of_lt_of_le h.2 HAL.out.size, fun e => ?_⟩)) (fun k h => .inr ⟨⟨Nat.le_trans HX.out.size h.1, Nat.lt_of_lt_of_le h.2 (Nat.le_trans HAL.out.size HG.out.size)⟩, fun e => ?_⟩)) (H5.out.to (Kept.ext ((HX1.out.trans HXx.out).trans HX5.out) hS) (fun _ h => .inl h))
        ·have h1 := (HW.out.lt k e.symm).2
         have h2 := h.1
         omega
        ·rcases HBK.out with e2 | e2
         ·have h1 := (HW.out.lt k (e.trans e2).symm).2
          have h2 := h.1
          omega
         ·have e3 : k = _ := Option.some.inj (e.trans e2)
          have h2 := h.2
          have h3 := HAL.out.size
          omega
      case measure => simp only [intOf]; omega
   ·obtain rfl : k = np := by omega
    have HE : Hid ((wholeF p).take k = wholeF p) := hid (List.take_of_length_le (by unfold wholeF; rw [List.length_map, ← HNP.out]; exact Nat.le_refl _))
    go_wp2
    all_goals
     go_ret
     refine ⟨_, rfl, ?_, HX1.out.trans (HXx.out.trans HX.out)⟩
     have hc := HXS.out
     rw [HE.out] at hc
     exact own_rts (by rw [show (wholeF p).length = k by unfold wholeF; rw [List.length_map, ← HNP.out]]; exact HW.out) (hc.to (Kept.refl _ _) (fun k h => h.elim .inl (fun h => .inr ⟨Nat.le_trans (HX1.out.trans HXx.out).size h.1.1, h.1.2⟩))) (fun k h1 h2 => .inr ⟨Nat.le_trans (HX1.out.trans HXx.out).size h1, h2⟩)
 ·have HSG : Hid (false = decide (sgF p < 0)) := hid (by
   have e : sgF p = (contF p : Int) := by rw [hp]; exact if_neg (by omega)
   rw [e]
   exact (decide_eq_false (by omega)).symm)
  rw [show signI t0.1 = 1 from by unfold signI cmpI; rw [if_neg (by omega)]; first | rw [if_pos (by omega)] | rw [if_neg (by omega)]] at C1
  have C1 := hid C1
  clear h0 hp ht htm h1 h2 h3 h4 h5 hbt hnt hz hcz hpos hSb
  go_wp2_with fail
  refine C1.out.mono ?_
  rintro e w3 ⟨rfl, hx3⟩
  have HX3 := hid (HX2.out.trans hx3)
  have HZ3 := hid (And.intro (hx3.cell HC2.out.1) (hx3.cell HC2.out.2.1))
  clear hx3 g1 g2
  obtain ⟨bs, hbs⟩ : ∃ b : Bool, b = false := ⟨_, rfl⟩
  obtain ⟨wx, hwx⟩ : ∃ Y, Y = w3 := ⟨_, rfl⟩
  have HZ : Hid (wx.cell? ⟨b3, 0, none⟩ = some (.bool bs) ∧ wx.cell? ⟨b3, 1, none⟩ = some (.slice a1 n1 c1)) := hid (by rw [hwx, hbs]; exact HZ3.out)
  have HXx : Hid (Ext w1 wx) := hid (by rw [hwx]; exact HX3.out)
  have HBS : Hid (bs = decide (sgF p < 0)) := hid (by rw [hbs]; exact HSG.out)
  go_upto_region 4 with fail
  rw [← hwx]
  clear hwx hbs HSG
  go_wp2
  go_loopw [4, 5] (fun o i wr => ∃ k xs, k ≤ np ∧ i = .int .i64 (k : Nat) ∧ Hid (Ext wx wr) ∧ Hid (wr.ownsRow wx.heap.size 95 3 o k xs) ∧ Hid (Cells3 (SOff S wx wr o) wr xs ((wholeF p).take k))) (fun _ i _ => np - (intOf i).toNat)
  case atStart => exact ⟨0, [], Nat.zero_le _, rfl, hid (Ext.refl _), hid (World.ownsRow_nil _ _ _ _), hid rfl⟩
  case round =>
   obtain ⟨k, xs, hk, rfl, HX, HW, HXS⟩ := hrel
   have HXW := hid (HX1.out.trans (HXx.out.trans HX.out))
   by_cases hlt : k < np
   ·obtain ⟨t, ht⟩ := some_of_lt (l := p) (j := k) (by rw [← HNP.out]; exact hlt)
    have htm := List.mem_of_getElem? ht
    obtain ⟨b, off, vd, vo, e0, -, hn1, hm1, hSb, h1, h2, h3, h4, h5⟩ := H.out.cellAt ht
    obtain ⟨rfl, rfl⟩ : b0 = b ∧ off0 = off := by simpa using e0
    have HT := hid (wholeF_at ht)
    have HTZ := hid (HSZ.out.2 t htm)
    obtain ⟨q, hq⟩ : ∃ q, q = t.1 / sgF p := ⟨_, rfl⟩
    have HQ : Hid (t.1 = q * sgF p) := hid (by rw [hq]; exact (Int.ediv_mul_cancel (sgF_dvd htm)).symm)
    rw [← hq] at HT
    obtain ⟨ad, cd, rfl⟩ := h4.form
    obtain ⟨ao, co, rfl⟩ := h5.form
    obtain ⟨bt, hbt⟩ : ∃ b, b = decide (t.1 < 0) := ⟨_, rfl⟩
    obtain ⟨nt, hnt⟩ : ∃ n, n = (rep 10 t.1.natAbs).length := ⟨_, rfl⟩
    obtain ⟨nm, hnm⟩ : ∃ n, n = t.2.length := ⟨_, rfl⟩
    obtain ⟨bq, hbq⟩ : ∃ b, b = decide (q < 0) := ⟨_, rfl⟩
    obtain ⟨nq, hnq⟩ : ∃ n, n = (rep 10 q.natAbs).length := ⟨_, rfl⟩
    rw [← hbt] at h1
    rw [← hnt] at h2 h4
    rw [← hnm] at h3 h5
    have H4 := hid h4
    have H5 := hid h5
    have HBT := hid hbt
    have HBQ := hid hbq
    have CD := hid (fun (W : World) (hW : Ext wr W) => (show Calls Tryz.prog 94 #[.agg #[.bool bt, .slice ad nt cd], .agg #[.bool bs, .slice a1 n1 c1]] W fun e w' => ∃ (aq : Option Addr) (cq : Nat) (a' : Option Addr) (c' : Nat), e = .returned (.tuple #[.agg #[.bool bq, .slice aq nq cq], .agg #[.bool false, .slice a' 0 c']]) ∧ Digs (New W w') w' (.slice aq nq cq) (rep 10 q.natAbs) ∧ Ext W w' from
     (zed_exact (S := Plus S w w1) (.agg #[.bool bt, .slice ad nt cd]) (.agg #[.bool bs, .slice a1 n1 c1]) t.1 (sgF p) q W ⟨_, by rw [HBT.out], H4.out.to (Kept.ext (HXW.out.trans hW) hS) (fun _ h => .inl h)⟩ ⟨_, by rw [HBS.out], by rw [sgF_abs HPN.out]; exact HD1.out.to (Kept.ext (HXx.out.trans (HX.out.trans hW)) HPL.out) (fun _ h => h)⟩ (fun j h => Nat.lt_of_lt_of_le (HPL.out j h) (HXx.out.trans (HX.out.trans hW)).size) HTZ.out (by unfold szZ; rw [sgF_abs HPN.out]; exact HCL.out) HQ.out (sgF_ne HPN.out HNZ.out)).mono (by
      rintro e w' ⟨v', a', c', rfl, ⟨vd', rfl, hd'⟩, hx'⟩
      obtain ⟨aq, cq, rfl⟩ := hd'.form
      rw [← hnq] at hd' ⊢
      exact ⟨aq, cq, a', c', by rw [← hbq], hd', hx'⟩)))
    have HC0 := hid (And.intro h1 (And.intro h2 h3))
    have HXD := hid (show Ext wr wr.drew from (Ext.refl wr).drew)
    have HSS := hid (fun (Y : World) (hY : Ext wr Y) => And.intro ((HXW.out.trans hY).cell HC0.out.1) (And.intro ((HXW.out.trans hY).cell HC0.out.2.1) (And.intro ((HX.out.trans hY).cell HZ.out.1) ((HX.out.trans hY).cell HZ.out.2))))
    clear ht htm h1 h2 h3 h4 h5 hbt hnt hnm hq hbq hnq hSb
    go_upto_region 8 with fail
    go_cut [6] (fun u6 wy => ∃ (b6 : Nat) (aq : Option Addr) (cq : Nat), u6 = .pointer (some ⟨b6, 0, none⟩) ∧ Hid (BoxD wr wy b6 (.bool bq) (.slice aq nq cq) (rep 10 q.natAbs)))
    case first =>
     go_region_held3 (fun Y => Y.cell? ⟨b0, off0 + k * 3, none⟩ = some (.bool bt) ∧ Y.cell? ⟨b0, off0 + k * 3 + 1, none⟩ = some (.slice ad nt cd) ∧ Y.cell? ⟨b3, 0, none⟩ = some (.bool bs) ∧ Y.cell? ⟨b3, 1, none⟩ = some (.slice a1 n1 c1)) ((refine HSS.out _ ?_; repeat (first | exact HXD.out | exact Ext.refl _ | exact HX5.out | refine Ext.alloc ?_ _ | refine Ext.drew ?_ | refine Ext.set2 ?_ (by first | exact Nat.le_refl _ | exact Nat.le_succ _ | (have g := HX5.out.size; omega)) _ _)))
      (first
       | (go_at_call 94; (with_reducible refine (CD.out _ HXD.out).mono ?_); rintro e w5 ⟨aq, cq, a', c', rfl, hd5, hx5⟩; have HX5 := hid (HXD.out.trans hx5); have HX5 := hid (show Ext wr w5 from HX5.out); have HD5 := hid (show Digs (New wr w5) w5 (.slice aq nq cq) (rep 10 q.natAbs) from hd5); clear hx5 hd5)
       | (go_at_call 94; (with_reducible refine (CD.out _ (((Ext.refl wr).alloc _).drew)).mono ?_); rintro e w5 ⟨aq, cq, a', c', rfl, hd5, hx5⟩; have HX5 := hid ((((Ext.refl wr).alloc _).drew).trans hx5); have HD5 := hid (mid1 hd5); obtain ⟨y0, y1, yf0, yf1⟩ := box_a hx5; have ylt := lt_of_cell y0; clear hx5 hd5)
       | (go_at_call 94; (with_reducible refine (CD.out _ ((((Ext.refl wr).alloc _).alloc _).drew)).mono ?_); rintro e w5 ⟨aq, cq, a', c', rfl, hd5, hx5⟩; have HX5 := hid (((((Ext.refl wr).alloc _).alloc _).drew).trans hx5); have HD5 := hid (mid2 hd5); obtain ⟨y0, y1, yf0, yf1, y2, y3, yf2, yf3⟩ := box_b hx5; have ylt := lt_of_cell y0; have ylt2 := lt_of_cell y2; clear hx5 hd5)
       | fail)
     all_goals
      go_wp2_with fail
      go_meet
      first
       | with_reducible exact ⟨_, _, _, rfl, hid (fin_a HX5.out HD5.out)⟩
       | with_reducible exact ⟨_, _, _, rfl, hid (fin_b HX5.out HD5.out)⟩
       | with_reducible exact ⟨_, _, _, rfl, hid (fin_c HX5.out (Nat.le_refl _) (Nat.lt_succ_self _) (Nat.le_succ _) HD5.out y0 y1 _)⟩
       | with_reducible exact ⟨_, _, _, rfl, hid (fin_d HX5.out (Nat.le_refl _) (Nat.lt_succ_self _) (Nat.le_succ _) HD5.out)⟩
       | with_reducible exact ⟨_, _, _, rfl, hid (fin_e HX5.out (Nat.le_refl _) (Nat.le_succ _) (by omega) (Nat.lt_succ_self _) (Nat.succ_ne_self _) (by omega) HD5.out y0 y1)⟩
       | with_reducible exact ⟨_, _, _, rfl, hid (fin_e HX5.out (Nat.le_succ _) (Nat.le_refl _) (Nat.lt_succ_self _) (by omega) (Nat.succ_ne_self _).symm (by omega) HD5.out y2 y3)⟩
       | fail
    case rest =>
     obtain ⟨b6, aq, cq, rfl, HBX⟩ := hcut
     have HX6 := hid HBX.out.2.2.2.1
     have HXW6 := hid (HXW.out.trans HX6.out)
     have S6 : _ ∧ _ ∧ _ := And.intro HBX.out.1 (And.intro HBX.out.2.1 (HXW6.out.cell HC0.out.2.2))
     have HW6 := hid (own_ext HW.out HX6.out)
     have hal := ((Ext.refl wc).alloc (.cells #[.bool bq, .slice aq nq cq, .slice ao nm co] 95)).drew
     have HAL := hid hal
     have HW7 := hid (own_ext HW6.out hal)
     have HSRC7 : Hid (SrcAt (wc.alloc (.cells #[.bool bq, .slice aq nq cq, .slice ao nm co] 95)).drew (some ⟨wc.heap.size, 0, none⟩) 1 3 (#[.bool bq, .slice aq nq cq, .slice ao nm co] : Array Value).toList) := hid (src_one wc #[.bool bq, .slice aq nq cq, .slice ao nm co] 95 (three_cell rfl rfl rfl) (size := 3) rfl)
     have HB5 : Hid (wx.heap.size ≤ (wc.alloc (.cells #[.bool bq, .slice aq nq cq, .slice ao nm co] 95)).drew.heap.size) := hid ((HX.out.trans HX6.out).trans hal).size
     have HB3' : Hid (k + 1 ≤ maxLen) := hid (by have := HSZ.out.1; have := HNP.out; unfold maxLen; omega)
     have HB4' : Hid ((k + 1) * 56 ≤ 140737488355328) := hid (by have := HSZ.out.1; have := HNP.out; omega)
     have HSXX := hid (fun (Y : World) (hY : Ext wr Y) => And.intro ((HXW.out.trans hY).cell HC0.out.2.2) trivial)
     clear hal
     go_wp2
     go_region_held3 (fun Y => Y.cell? ⟨b6, 0, none⟩ = some (.bool bq) ∧ Y.cell? ⟨b6, 1, none⟩ = some (.slice aq nq cq) ∧ Y.cell? ⟨b0, off0 + k * 3 + 2, none⟩ = some (.slice ao nm co)) (first | exact S6 | exact ⟨cell_old _ S6.1, cell_old _ S6.2.1, cell_old _ S6.2.2⟩ | exact S7)
      ((refine step_append_src rfl (.tmp 39) (.tmp 47) 61 rfl wx.heap.size 95 j0 (.agg #[.bool false, .slice none 0 0, .slice none 0 0]) 3 56 Tryz.underlying61 hj jz0 jz1 jz2 rfl (Nat.succ_pos _) _ k xs rfl HW7.out (some ⟨wc.heap.size, 0, none⟩) 1 1 _ rfl HSRC7.out HB3'.out HB4'.out HB5.out ?_; intro v5 w5 hown hg hbk; have HW5 := hid hown; have HG := hid hg; have HBK := hid hbk; have HX5 := hid (own_grown0 ((HX.out.trans HX6.out).trans HAL.out) HW7.out hg); have S7 : _ ∧ _ ∧ _ := And.intro (box_grown hg HW.out HBX.out.2.2.2.2 S6.1) (And.intro (box_grown hg HW.out HBX.out.2.2.2.2 S6.2.1) (((HX1.out.trans HXx.out).trans HX5.out).cell HC0.out.2.2)); clear hown hg hbk))
     all_goals
      go_wp2
      go_roundw
      case rel =>
       refine ⟨k + 1, xs ++ (#[.bool bq, .slice aq nq cq, .slice ao nm co] : Array Value).toList, by omega, by go_num, HX5, HW5, hid ?_⟩
       rw [HT.out]
       have k6 := sOff_ext HXS.out (fun k h => Nat.lt_of_lt_of_le (hS k h) HXW.out.size) HX6.out
       have k7 := sOff_ext k6 (fun k h => Nat.lt_of_lt_of_le (hS k h) HXW6.out.size) HAL.out
       refine (sOff_grown k7 (fun k h => ⟨Nat.lt_of_lt_of_le (hS k h) (HXW6.out.trans HAL.out).size, fun e => ?_⟩) HG.out HBK.out (Nat.le_refl _)).append ?_
       ·have h1 := (HW.out.lt k e.symm).1
        have h2 := Nat.lt_of_lt_of_le (hS k h) (HX1.out.trans HXx.out).size
        omega
       ·rw [HBQ.out]
        refine Cells3.single (t := (q, t.2)) ((HBX.out.2.2.1.to (Kept.ext HAL.out New.lt) (fun _ h => h)).to (Kept.grown HG.out (fun k h => ⟨Nat.lt_of_lt_of_le h.2 HAL.out.size, fun e => ?_⟩)) (fun k h => .inr ⟨⟨Nat.le_trans HX.out.size h.1, Nat.lt_of_lt_of_le h.2 (Nat.le_trans HAL.out.size HG.out.size)⟩, fun e => ?_⟩)) (H5.out.to (Kept.ext ((HX1.out.trans HXx.out).trans HX5.out) hS) (fun _ h => .inl h))
        ·have h1 := (HW.out.lt k e.symm).2
         have h2 := h.1
         omega
        ·rcases HBK.out with e2 | e2
         ·have h1 := (HW.out.lt k (e.trans e2).symm).2
          have h2 := h.1
          omega
         ·have e3 : k = _ := Option.some.inj (e.trans e2)
          have h2 := h.2
          have h3 := HAL.out.size
          omega
      case measure => simp only [intOf]; omega
   ·obtain rfl : k = np := by omega
    have HE : Hid ((wholeF p).take k = wholeF p) := hid (List.take_of_length_le (by unfold wholeF; rw [List.length_map, ← HNP.out]; exact Nat.le_refl _))
    go_wp2
    all_goals
     go_ret
     refine ⟨_, rfl, ?_, HX1.out.trans (HXx.out.trans HX.out)⟩
     have hc := HXS.out
     rw [HE.out] at hc
     exact own_rts (by rw [show (wholeF p).length = k by unfold wholeF; rw [List.length_map, ← HNP.out]]; exact HW.out) (hc.to (Kept.refl _ _) (fun k h => h.elim .inl (fun h => .inr ⟨Nat.le_trans (HX1.out.trans HXx.out).size h.1.1, h.1.2⟩))) (fun k h1 h2 => .inr ⟨Nat.le_trans (HX1.out.trans HXx.out).size h1, h2⟩)
end
end Go.Proofs.YtbfflodidkfphaaGreat
