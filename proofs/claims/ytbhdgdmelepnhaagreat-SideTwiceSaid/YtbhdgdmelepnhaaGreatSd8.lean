/- A condition's polynomial: of spots that are known. How many points a condition's word asks: a map that is laid, filled and asked once. A condition's polynomial: of names in a layout. A condition's polynomial, the document's. A condition's polynomial of names, the document's. Has a polynomial a variable? The program's division: a step's term, and products with the head. The program's division: what is told behind a step. The program's division: one step. Pseudo-division, plain: what a whole division answers: the identity, degrees, how many steps; with a meter as without one. Pseudo-division of a product by one of its factors, plain: no rest; as many steps as the other factor has terms, at most. Pseudo-division, plain: powers, sizes of what is told, and how the statements' equations come about. The program's division: its beginning, all its steps, and what is told. The program's division: all its steps. The program's division, as it is asked. What layer 9's law knows. What layer 12's law knows. The document's division: all its steps. Layer 12's law: what is too great, the meters of both sides, powers, limbs. The program's powers, and how many limbs. Layer 12's law: the meters of both sides, of limits; none of both, if there are to be none; have both counted the same. Layer 12's statements: what is not too great, and the divisions of it. The arguments of the statements of layers 12 and 16 that are no polynomials: whole numbers, truths, limits. From the form's own reading of an argument to a layout: names, coordinates, two numbers. -/
import Derived.Carry
import Derived.WalkKit
import Derived.Maps.Own
import Derived.Maps.OwnOps
import Derived.Maps.Views
import Derived.StringKeys
import Derived.Deep.CutBlock
import Derived.Shelf.Abstract
import Derived.Maps.StringElems
import Derived.Test.YtbhdgdmelepnhaaGreatSd7
namespace Go.Proofs.YtbhdgdmelepnhaaGreat
open Go.RowKit

def wUnlike : ByteArray := { data := #[117, 110, 108, 105, 107, 101] }
def wApart : ByteArray := { data := #[97, 112, 97, 114, 116] }
def wCross : ByteArray := { data := #[99, 114, 111, 115, 115] }
def wDot : ByteArray := { data := #[100, 111, 116] }
theorem isUnlike {wd : ByteArray} (h : wd = wUnlike) : (wd.toList == [117, 110, 108, 105, 107, 101]) = true := by
  have e : wUnlike.toList = [117, 110, 108, 105, 107, 101] := by rw [ByteArray.toList_eq]; rfl
  rw [← e]; exact str_eq h
theorem noUnlike {wd : ByteArray} (h : wd ≠ wUnlike) : (wd.toList == [117, 110, 108, 105, 107, 101]) = false := by
  have e : wUnlike.toList = [117, 110, 108, 105, 107, 101] := by rw [ByteArray.toList_eq]; rfl
  rw [← e]; exact str_ne h
theorem isApart {wd : ByteArray} (h : wd = wApart) : (wd.toList == [97, 112, 97, 114, 116]) = true := by
  have e : wApart.toList = [97, 112, 97, 114, 116] := by rw [ByteArray.toList_eq]; rfl
  rw [← e]; exact str_eq h
theorem noApart {wd : ByteArray} (h : wd ≠ wApart) : (wd.toList == [97, 112, 97, 114, 116]) = false := by
  have e : wApart.toList = [97, 112, 97, 114, 116] := by rw [ByteArray.toList_eq]; rfl
  rw [← e]; exact str_ne h
theorem isCross {wd : ByteArray} (h : wd = wCross) : (wd.toList == [99, 114, 111, 115, 115]) = true := by
  have e : wCross.toList = [99, 114, 111, 115, 115] := by rw [ByteArray.toList_eq]; rfl
  rw [← e]; exact str_eq h
theorem noCross {wd : ByteArray} (h : wd ≠ wCross) : (wd.toList == [99, 114, 111, 115, 115]) = false := by
  have e : wCross.toList = [99, 114, 111, 115, 115] := by rw [ByteArray.toList_eq]; rfl
  rw [← e]; exact str_ne h
theorem isDot {wd : ByteArray} (h : wd = wDot) : (wd.toList == [100, 111, 116]) = true := by
  have e : wDot.toList = [100, 111, 116] := by rw [ByteArray.toList_eq]; rfl
  rw [← e]; exact str_eq h
theorem noDot {wd : ByteArray} (h : wd ≠ wDot) : (wd.toList == [100, 111, 116]) = false := by
  have e : wDot.toList = [100, 111, 116] := by rw [ByteArray.toList_eq]; rfl
  rw [← e]; exact str_ne h
def askW (wd : ByteArray) : Option Nat := if wd = wUnlike then some 2 else if wd = wApart then some 3 else if wd = wCross then some 4 else if wd = wDot then some 4 else none
def condP (wd : ByteArray) (cs : List (Int × Int)) : PZ :=
  if wd = wUnlike then dotP (cs.getD 0 (1, 1)) (cs.getD 1 (1, 1)) (cs.getD 0 (1, 1)) (cs.getD 1 (1, 1))
  else if wd = wApart then crossP (cs.getD 0 (1, 1)) (cs.getD 1 (1, 1)) (cs.getD 0 (1, 1)) (cs.getD 2 (1, 1))
  else if wd = wCross then crossP (cs.getD 0 (1, 1)) (cs.getD 1 (1, 1)) (cs.getD 2 (1, 1)) (cs.getD 3 (1, 1))
  else dotP (cs.getD 0 (1, 1)) (cs.getD 1 (1, 1)) (cs.getD 2 (1, 1)) (cs.getD 3 (1, 1))
theorem ok_getD {cs : List (Int × Int)} (h : ∀ c ∈ cs, Ok2 c) (j : Nat) : Ok2 (cs.getD j (1, 1)) := by
  rw [List.getD_eq_getElem?_getD]
  cases hj : cs[j]? with
  | none => exact ⟨by decide, by decide⟩
  | some c => exact h c (List.mem_of_getElem? hj)
theorem fit_cond {cs : List (Int × Int)} (wd : ByteArray) (h : ∀ c ∈ cs, Ok2 c) : Fit 10 8 (condP wd cs) := by
  have k := ok_getD h
  unfold condP
  split
  · exact fit_dot (k _) (k _) (k _) (k _)
  · split
    · exact fit_cross (k _) (k _) (k _) (k _)
    · split
      · exact fit_cross (k _) (k _) (k _) (k _)
      · exact fit_dot (k _) (k _) (k _) (k _)
theorem at_getD {cs : List (Int × Int)} {j : Nat} (h : j < cs.length) : cs[j]? = some (cs.getD j (1, 1)) := by
  rw [List.getD_eq_getElem?_getD, List.getElem?_eq_getElem h]; rfl

set_option maxRecDepth 100000 in
set_option maxHeartbeats 16000000 in
theorem spots_condition {W : World} {vs : Value} {cs : List (Int × Int)} (wd : ByteArray) (hs : Pows (Old W) W vs cs) (hok : ∀ c ∈ cs, Ok2 c) (hask : askW wd = some cs.length) :
    Calls Tryz.prog 100 #[vs, .string wd] W (Val1 W (condP wd cs)) := by
  have k := ok_getD hok
  obtain ⟨a, c, rfl⟩ := hs.form
  by_cases hUnlike : wd = wUnlike
  · have hn : cs.length = 2 := by unfold askW at hask; rw [if_pos hUnlike] at hask; exact (Option.some.inj hask).symm
    have C := spots_dot (x0 := 0) (x1 := 0) (x2 := 1) (x3 := 0) (x4 := 1) hs (at_getD (j := 0) (by omega)) (at_getD (j := 1) (by omega)) (at_getD (j := 0) (by omega)) (at_getD (j := 1) (by omega)) (k _) (k _) (k _) (k _) rfl rfl rfl rfl
    have e : condP wd cs = dotP (cs.getD 0 (1, 1)) (cs.getD 1 (1, 1)) (cs.getD 0 (1, 1)) (cs.getD 1 (1, 1)) := by unfold condP; rw [if_pos hUnlike]
    rw [e]
    have qUnlike := isUnlike hUnlike
    clear hUnlike
    have HC := hid C
    unfold Val1 at HC ⊢
    clear hs hok hask k hn C e
    go_enter Tryz.func100, Tryz.ntmps100
    go_wp2_with fail
    with_reducible refine HC.out.mono ?_
    rintro e w1 ⟨v1, rfl, hp1, hx1⟩
    have HX1 := hid hx1
    have HP1 := hid hp1
    clear hx1 hp1
    go_wp2
    all_goals
      go_ret
      exact ⟨_, rfl, HP1.out, HX1.out⟩
  · by_cases hApart : wd = wApart
    · have hn : cs.length = 3 := by unfold askW at hask; rw [if_neg hUnlike, if_pos hApart] at hask; exact (Option.some.inj hask).symm
      have C := spots_cross (x0 := 0) (x1 := 0) (x2 := 1) (x3 := 0) (x4 := 2) hs (at_getD (j := 0) (by omega)) (at_getD (j := 1) (by omega)) (at_getD (j := 0) (by omega)) (at_getD (j := 2) (by omega)) (k _) (k _) (k _) (k _) rfl rfl rfl rfl
      have e : condP wd cs = crossP (cs.getD 0 (1, 1)) (cs.getD 1 (1, 1)) (cs.getD 0 (1, 1)) (cs.getD 2 (1, 1)) := by unfold condP; rw [if_neg hUnlike, if_pos hApart]
      rw [e]
      have qUnlike := noUnlike hUnlike
      have qApart := isApart hApart
      clear hUnlike hApart
      have HC := hid C
      unfold Val1 at HC ⊢
      clear hs hok hask k hn C e
      go_enter Tryz.func100, Tryz.ntmps100
      go_wp2_with fail
      with_reducible refine HC.out.mono ?_
      rintro e w1 ⟨v1, rfl, hp1, hx1⟩
      have HX1 := hid hx1
      have HP1 := hid hp1
      clear hx1 hp1
      go_wp2
      all_goals
        go_ret
        exact ⟨_, rfl, HP1.out, HX1.out⟩
    · by_cases hCross : wd = wCross
      · have hn : cs.length = 4 := by unfold askW at hask; rw [if_neg hUnlike, if_neg hApart, if_pos hCross] at hask; exact (Option.some.inj hask).symm
        have C := spots_cross (x0 := 0) (x1 := 0) (x2 := 1) (x3 := 2) (x4 := 3) hs (at_getD (j := 0) (by omega)) (at_getD (j := 1) (by omega)) (at_getD (j := 2) (by omega)) (at_getD (j := 3) (by omega)) (k _) (k _) (k _) (k _) rfl rfl rfl rfl
        have e : condP wd cs = crossP (cs.getD 0 (1, 1)) (cs.getD 1 (1, 1)) (cs.getD 2 (1, 1)) (cs.getD 3 (1, 1)) := by unfold condP; rw [if_neg hUnlike, if_neg hApart, if_pos hCross]
        rw [e]
        have qUnlike := noUnlike hUnlike
        have qApart := noApart hApart
        have qCross := isCross hCross
        clear hUnlike hApart hCross
        have HC := hid C
        unfold Val1 at HC ⊢
        clear hs hok hask k hn C e
        go_enter Tryz.func100, Tryz.ntmps100
        go_wp2_with fail
        with_reducible refine HC.out.mono ?_
        rintro e w1 ⟨v1, rfl, hp1, hx1⟩
        have HX1 := hid hx1
        have HP1 := hid hp1
        clear hx1 hp1
        go_wp2
        all_goals
          go_ret
          exact ⟨_, rfl, HP1.out, HX1.out⟩
      · have hDot : wd = wDot := by
          unfold askW at hask
          rw [if_neg hUnlike, if_neg hApart, if_neg hCross] at hask
          by_cases h : wd = wDot
          · exact h
          · rw [if_neg h] at hask; cases hask
        have hn : cs.length = 4 := by unfold askW at hask; rw [if_neg hUnlike, if_neg hApart, if_neg hCross, if_pos hDot] at hask; exact (Option.some.inj hask).symm
        have C := spots_dot (x0 := 0) (x1 := 0) (x2 := 1) (x3 := 2) (x4 := 3) hs (at_getD (j := 0) (by omega)) (at_getD (j := 1) (by omega)) (at_getD (j := 2) (by omega)) (at_getD (j := 3) (by omega)) (k _) (k _) (k _) (k _) rfl rfl rfl rfl
        have e : condP wd cs = dotP (cs.getD 0 (1, 1)) (cs.getD 1 (1, 1)) (cs.getD 2 (1, 1)) (cs.getD 3 (1, 1)) := by unfold condP; rw [if_neg hUnlike, if_neg hApart, if_neg hCross]
        rw [e]
        have qUnlike := noUnlike hUnlike
        have qApart := noApart hApart
        have qCross := noCross hCross
        clear hUnlike hApart hCross hDot
        have HC := hid C
        unfold Val1 at HC ⊢
        clear hs hok hask k hn C e
        go_enter Tryz.func100, Tryz.ntmps100
        go_wp2_with fail
        with_reducible refine HC.out.mono ?_
        rintro e w1 ⟨v1, rfl, hp1, hx1⟩
        have HX1 := hid hx1
        have HP1 := hid hp1
        clear hx1 hp1
        go_wp2
        all_goals
          go_ret
          exact ⟨_, rfl, HP1.out, HX1.out⟩
end Go.Proofs.YtbhdgdmelepnhaaGreat

namespace Go.Proofs.YtbhdgdmelepnhaaGreat
open Go.RowKit Go.Maps Go.WideMaps Go.WideShapes

def keyS (x : ByteArray) : Lit := .string x.data.toList
def d4 : DataW Unit := ((((DataW.map []).put (keyS wUnlike) (.lit (.int .i64 2))).put (keyS wApart) (.lit (.int .i64 3))).put (keyS wCross) (.lit (.int .i64 4))).put (keyS wDot) (.lit (.int .i64 4))
theorem keyS_inj {x y : ByteArray} (h : x ≠ y) : keyS x ≠ keyS y := fun e => h (by
  unfold keyS at e
  injection e with e
  exact ByteArray.ext (Array.toList_inj.mp e))
theorem keyS_key (x : ByteArray) : WideAt.IsKeyLit (keyS x) := trivial
theorem d4_at (wd : ByteArray) (zd : DataW Unit) : d4.atKey (keyS wd) zd = match askW wd with | some n => .lit (.int .i64 (n : Int)) | none => zd := by
  unfold d4 askW
  have i0 : IsMap (DataW.map [] : DataW Unit) := isMap_empty
  by_cases h1 : wd = wUnlike
  · rw [if_pos h1, atKey_put_other (keyS_inj (by rw [h1]; decide)), atKey_put_other (keyS_inj (by rw [h1]; decide)), atKey_put_other (keyS_inj (by rw [h1]; decide)), h1, atKey_put_same i0 (keyS_key _)]; rfl
  · by_cases h2 : wd = wApart
    · rw [if_neg h1, if_pos h2, atKey_put_other (keyS_inj (by rw [h2]; decide)), atKey_put_other (keyS_inj (by rw [h2]; decide)), h2, atKey_put_same (i0.put _ _) (keyS_key _)]; rfl
    · by_cases h3 : wd = wCross
      · rw [if_neg h1, if_neg h2, if_pos h3, atKey_put_other (keyS_inj (by rw [h3]; decide)), h3, atKey_put_same ((i0.put _ _).put _ _) (keyS_key _)]; rfl
      · by_cases h4 : wd = wDot
        · rw [if_neg h1, if_neg h2, if_neg h3, if_pos h4, h4, atKey_put_same (((i0.put _ _).put _ _).put _ _) (keyS_key _)]; rfl
        · rw [if_neg h1, if_neg h2, if_neg h3, if_neg h4, atKey_put_other (keyS_inj h4), atKey_put_other (keyS_inj h3), atKey_put_other (keyS_inj h2), atKey_put_other (keyS_inj h1)]; rfl
def askI (wd : ByteArray) : Int := match askW wd with | some n => (n : Int) | none => 0
set_option maxRecDepth 100000 in
theorem ask_run (W : World) (b : Nat) (hb : b = W.heap.size) : ∃ m1 m2 m3 m4,
    (Instr.mapUpdate 82 (.map (some b)) (.string { data := #[117, 110, 108, 105, 107, 101] }) (.int .i64 2)).run Tryz.prog (W.alloc (.map #[] 0)) = .ok () m1 ∧
    (Instr.mapUpdate 82 (.map (some b)) (.string { data := #[97, 112, 97, 114, 116] }) (.int .i64 3)).run Tryz.prog m1 = .ok () m2 ∧
    (Instr.mapUpdate 82 (.map (some b)) (.string { data := #[99, 114, 111, 115, 115] }) (.int .i64 4)).run Tryz.prog m2 = .ok () m3 ∧
    (Instr.mapUpdate 82 (.map (some b)) (.string { data := #[100, 111, 116] }) (.int .i64 4)).run Tryz.prog m3 = .ok () m4 ∧
    (∀ wd : ByteArray, wd.size ≤ maxLen → (Instr.lookup 82 (.map (some b)) (.string wd) true).run Tryz.prog m4 = .ok (.tuple #[.int .i64 (askI wd), .bool (askW wd).isSome]) m4) ∧ Ext W m4 := by
  subst hb
  have K : Keyed Tryz.prog 9 := string_keyed Tryz.underlying9
  have h0 := World.ownsMap_made (H := Unit) W Tryz.prog 9 (plainElem Tryz.prog 3)
  have sz : ∀ wd : ByteArray, wd.size ≤ maxLen → keyOf Tryz.prog 9 (.string wd) = some (keyS wd) := fun wd h => keyOf_string_mk Tryz.underlying9 h
  have e2 : plainElem (H := Unit) Tryz.prog 3 (.int .i64 2) = some (.lit (.int .i64 2), []) := plainElem_int Tryz.underlying3 (by decide)
  have e3 : plainElem (H := Unit) Tryz.prog 3 (.int .i64 3) = some (.lit (.int .i64 3), []) := plainElem_int Tryz.underlying3 (by decide)
  have e4 : plainElem (H := Unit) Tryz.prog 3 (.int .i64 4) = some (.lit (.int .i64 4), []) := plainElem_int Tryz.underlying3 (by decide)
  obtain ⟨m1, r1, o1, g1⟩ := h0.update K Tryz.underlying82 (by decide) (sz wUnlike (by decide)) e2
  obtain ⟨m2, r2, o2, g2⟩ := o1.update K Tryz.underlying82 (by decide) (sz wApart (by decide)) e3
  obtain ⟨m3, r3, o3, g3⟩ := o2.update K Tryz.underlying82 (by decide) (sz wCross (by decide)) e4
  obtain ⟨m4, r4, o4, g4⟩ := o3.update K Tryz.underlying82 (by decide) (sz wDot (by decide)) e4
  have hz : (zeroValue 3).run Tryz.prog m4 = .ok (.int .i64 0) m4 := Tryz.zeroValue3 _
  refine ⟨m1, m2, m3, m4, r1, r2, r3, r4, fun wd hwd => ?_, ?_⟩
  · obtain ⟨es, clock, hb, F, -, hD⟩ := o4
    have hat := d4_at wd
    rw [show d4 = _ from hD] at hat
    unfold askI
    rcases Maps.fit_look true K Tryz.underlying82 hz hb F (sz wd hwd) with ⟨hrun, -, h⟩ | ⟨e0, y, -, -, hrun, hR, h, -⟩
    · cases ha : askW wd with
      | none => exact hrun
      | some n =>
        have k := (h .nil).symm.trans (hat .nil)
        rw [ha] at k
        cases k
    · cases ha : askW wd with
      | none =>
        have k := fun zd => (h zd).symm.trans (hat zd)
        simp only [ha] at k
        have k1 := (k .nil).symm.trans (k (.lit (.bool true)))
        cases k1
      | some n =>
        have k := (h .nil).symm.trans (hat .nil)
        simp only [ha] at k
        obtain ⟨c, hc, hy, -⟩ := plainElem_int_inv Tryz.underlying3 hR
        rw [hy] at k
        have : c = (n : Int) := by simpa using k
        rw [hrun, hc, this]
        rfl
  · have k : Ext W (W.alloc (.map #[] 0)) := Ext.alloc (Ext.refl W) _
    have q : ∀ {A B : World}, Ext W A → A.grownBy B (some W.heap.size) → Ext W B := fun h g => h.grown g h.size (fun k e => by cases e; exact Nat.le_refl _)
    exact q (q (q (q k g1) g2) g3) g4
end Go.Proofs.YtbhdgdmelepnhaaGreat

namespace Go.Proofs.YtbhdgdmelepnhaaGreat
open Go.RowKit

structure Lay where
  pts : List ByteArray
  ats : List (Int × Int)
  par : Int
  vrs : Int
def LayV (S : Nat → Prop) (W : World) (v : Value) (x : Lay) : Prop := ∃ vp va, v = .agg #[vp, va, .int .i64 x.par, .int .i64 x.vrs] ∧ Strs S W vp x.pts ∧ Pows S W va x.ats
theorem LayV.on {W Y : World} {v : Value} {x : Lay} (h : LayV (Old W) W v x) (hx : Ext W Y) : LayV (Old Y) Y v x := by
  obtain ⟨vp, va, e, h1, h2⟩ := h
  exact ⟨vp, va, e, h1.to (Kept.ext hx (fun _ h => h)) (old_lt hx), h2.on hx⟩
def placeS (x : Lay) (nm : ByteArray) : Option (Int × Int) := (posS x.pts nm).bind fun i => x.ats[i]?
def placesS (x : Lay) : List ByteArray → Option (List (Int × Int))
  | [] => some []
  | n :: r => match placeS x n, placesS x r with
    | some c, some l => some (c :: l)
    | _, _ => none
theorem placesS_snoc (x : Lay) (n : ByteArray) : ∀ l : List ByteArray, placesS x (l ++ [n]) = match placesS x l, placeS x n with
    | some l, some c => some (l ++ [c])
    | _, _ => none
  | [] => by
    show (match placeS x n, some [] with | some c, some l => some (c :: l) | _, _ => none) = _
    cases placeS x n <;> rfl
  | m :: r => by
    have ih := placesS_snoc x n r
    show (match placeS x m, placesS x (r ++ [n]) with | some c, some l => some (c :: l) | _, _ => none) = match (match placeS x m, placesS x r with | some c, some l => some (c :: l) | _, _ => none), placeS x n with | some l, some c => some (l ++ [c]) | _, _ => none
    rw [ih]
    cases placeS x m <;> cases placesS x r <;> cases placeS x n <;> rfl
theorem placesS_len {x : Lay} : ∀ {l : List ByteArray} {cs : List (Int × Int)}, placesS x l = some cs → cs.length = l.length
  | [], cs, h => by obtain rfl : [] = cs := by simpa [placesS] using h
                    rfl
  | m :: r, cs, h => by
    unfold placesS at h
    cases hm : placeS x m with
    | none => rw [hm] at h; cases h
    | some c =>
      cases hr : placesS x r with
      | none => rw [hm, hr] at h; cases h
      | some l =>
        rw [hm, hr] at h
        obtain rfl : c :: l = cs := by simpa using h
        simp [placesS_len hr]
theorem placesS_mem {x : Lay} : ∀ {l : List ByteArray} {cs : List (Int × Int)}, placesS x l = some cs → ∀ c ∈ cs, c ∈ x.ats
  | [], cs, h => by obtain rfl : [] = cs := by simpa [placesS] using h
                    simp
  | m :: r, cs, h => by
    unfold placesS at h
    cases hm : placeS x m with
    | none => rw [hm] at h; cases h
    | some c =>
      cases hr : placesS x r with
      | none => rw [hm, hr] at h; cases h
      | some l =>
        rw [hm, hr] at h
        obtain rfl : c :: l = cs := by simpa using h
        intro d hd
        rcases List.mem_cons.1 hd with rfl | hd
        · unfold placeS at hm
          obtain ⟨i, -, hi⟩ := Option.bind_eq_some_iff.1 hm
          exact List.mem_of_getElem? hi
        · exact placesS_mem hr d hd
/-- an error's number, and the polynomial -/
def condX (x : Lay) (wd : ByteArray) (names : List ByteArray) : Int × PZ := match askW wd, placesS x names with
  | some n, some cs => if names.length = n then (0, condP wd cs) else (13, [])
  | _, _ => (5, [])
theorem Tryz.infoCoord : (Tryz.prog.info? 89).map (fun i => (i.zero, i.size, i.bytes)) = some (some (.agg #[.int .i64 0, .int .i64 0]), 2, 16) := by kernel_rfl
theorem blk_new4 (W : World) (v0 v1 v2 v3 : Value) (T : TypeId) {Y : World} (h : Ext (W.alloc (.cells #[v0, v1, v2, v3] T)) Y) : Y.cell? ⟨W.heap.size, 0, none⟩ = some v0 ∧ Y.cell? ⟨W.heap.size, 1, none⟩ = some v1 :=
  ⟨h.cell (cell_new W _ _ rfl rfl), h.cell (cell_new W _ _ rfl rfl)⟩

set_option maxRecDepth 100000 in
set_option maxHeartbeats 16000000 in
theorem hypo_condition {W : World} {v vn : Value} {x : Lay} {wd : ByteArray} {names : List ByteArray} (hx : LayV (Old W) W v x) (hok : ∀ c ∈ x.ats, Ok2 c) (hn : Strs (Old W) W vn names) (hw : wd.size ≤ 1000) (hnl : names.length ≤ 1000) :
    Calls Tryz.prog 65 #[v, .string wd, vn] W fun e w' => ∃ v', e = .returned (.tuple #[v', .int .i64 (condX x wd names).1]) ∧ Terms (New W w') w' v' (ofP (condX x wd names).2) ∧ Ext W w' := by
  have hnot : ∀ (x : Bool) (w : World), (Op.unary .not (.bool x)).run Tryz.prog w = .ok (.bool (!x)) w := fun _ _ => rfl
  obtain ⟨vp, va, rfl, hp, ha⟩ := hx
  have HP := hid hp
  have HA := hid ha
  have HN := hid hn
  have HOK := hid hok
  have hlp := hp.len_le
  have hla := ha.len_le
  obtain ⟨ap, cp, rfl⟩ := hp.form
  obtain ⟨aa, ca, rfl⟩ := ha.form
  obtain ⟨an, cn, rfl⟩ := hn.form
  obtain ⟨n, hnn⟩ : ∃ n, n = names.length := ⟨_, rfl⟩
  obtain ⟨np, hnp⟩ : ∃ n, n = x.pts.length := ⟨_, rfl⟩
  obtain ⟨na, hna⟩ : ∃ n, n = x.ats.length := ⟨_, rfl⟩
  rw [← hnn] at HN hnl ⊢
  rw [← hnp] at HP hlp ⊢
  rw [← hna] at HA hla ⊢
  have HNN := hid hnn
  have HNA := hid hna
  have hmm := @run_makeMap Tryz.prog
  obtain ⟨m1, m2, m3, m4, r1, r2, r3, r4, hlk, hx4⟩ := ask_run (W.alloc (.cells #[.slice ap np cp, .slice aa na ca, .int .i64 x.par, .int .i64 x.vrs] 35)) (W.heap.size + 1) (by rw [size_alloc])
  have r5 := hlk wd (by unfold maxLen; omega)
  have HB := hid (fun (Y : World) (hY : Ext m4 Y) => blk_new4 W _ _ _ _ _ (hx4.trans hY))
  have HX4 : Hid (Ext W m4) := hid (((Ext.refl W).alloc _).trans hx4)
  clear hp ha hn hok hnn hnp hna hlk hx4 hw
  obtain ⟨q, hq⟩ : ∃ q, q = askI wd := ⟨_, rfl⟩
  obtain ⟨ok0, hok0⟩ : ∃ q, q = (askW wd).isSome := ⟨_, rfl⟩
  rw [← hq, ← hok0] at r5
  have HQ := hid hq
  have HOK0 := hid hok0
  clear hq hok0
  go_enter Tryz.func65, Tryz.ntmps65
  go_wp2
  clear r1 r2 r3 r4 r5
  go_loopw [9, 10, 23] (fun okv s i wr => ∃ (k : Nat) (ok : Bool) (cs : List (Int × Int)), k ≤ n ∧ i = .int .i64 k ∧ okv = .bool ok ∧ Hid (ok = true → ok0 = true ∧ placesS x (names.take k) = some cs) ∧ Hid (ok = false → ok0 = false ∨ placesS x (names.take k) = none) ∧ Hid (wr.ownsRow m4.heap.size 89 2 s cs.length (flatP cs)) ∧ Ext m4 wr ∧ Hid (cs.length ≤ k)) (fun _ _ i _ => n - (intOf i).toNat)
  case atStart => exact ⟨0, ok0, [], Nat.zero_le _, rfl, rfl, hid (fun h => ⟨h, rfl⟩), hid (fun h => .inl h), hid (World.ownsRow_nil _ _ _ _), Ext.refl _, hid (Nat.le_refl _)⟩
  case round =>
    obtain ⟨k, ok, cs, hk, rfl, rfl, HT, HF, HO, hxr, HCL⟩ := hrel
    have HX := hid hxr
    obtain ⟨c0, c1⟩ := HB.out _ hxr
    by_cases hlt : k < n
    · obtain ⟨nm, hnm⟩ := some_of_lt (l := names) (j := k) (by rw [← HNN.out]; exact hlt)
      obtain ⟨b1, o1, rfl, -, hq1, hq2, -, hq3⟩ := (HN.out.to (Kept.ext (HX4.out.trans hxr) (fun _ h => h)) (old_lt (HX4.out.trans hxr))).cellAt hnm
      have HTK : Hid (names.take (k + 1) = names.take k ++ [nm]) := hid (by rw [List.take_add_one, hnm]; rfl)
      have HIX := hid (index_str (S := Old wr) (HP.out.to (Kept.ext (HX4.out.trans hxr) (fun _ h => h)) (old_lt (HX4.out.trans hxr))) nm (fun _ h => h))
      clear hnm hxr
      go_wp2_with fail
      with_reducible refine HIX.out.mono ?_
      rintro e w1 ⟨rfl, hx1⟩
      have HX1 := hid (HX.out.trans hx1)
      have HX1' := hid hx1
      obtain ⟨d0, d1⟩ := HB.out _ HX1.out
      have HO1 : Hid (w1.ownsRow m4.heap.size 89 2 _ cs.length (flatP cs)) := hid (own_ext HO.out hx1)
      clear hx1 c0 c1 hq3
      cases ok with
      | false =>
        have HF2 : Hid (ok0 = false ∨ placesS x (names.take (k + 1)) = none) := hid (by
          rcases HF.out rfl with h | h
          · exact .inl h
          · refine .inr ?_
            rw [HTK.out, placesS_snoc, h])
        go_wp2
        go_roundw
        case rel => exact ⟨k + 1, false, cs, by omega, by go_num, rfl, hid (fun h => by cases h), hid (fun _ => HF2.out), HO1, HX1.out, hid (by have := HCL.out; omega)⟩
        case measure => simp only [intOf]; omega
      | true =>
        have HT2 := hid (HT.out rfl)
        clear HT HF
        cases hps : posS x.pts nm with
        | none =>
          have hI : idxI x.pts nm = -1 := by unfold idxI; rw [hps]
          rw [hI]
          have HF2 : Hid (placesS x (names.take (k + 1)) = none) := hid (by
            rw [HTK.out, placesS_snoc]
            unfold placeS
            rw [hps]
            cases placesS x (names.take k) <;> rfl)
          clear hI hps
          go_wp2
          go_roundw
          case rel => exact ⟨k + 1, false, cs, by omega, by go_num, rfl, hid (fun h => by cases h), hid (fun _ => .inr HF2.out), HO1, HX1.out, hid (by have := HCL.out; omega)⟩
          case measure => simp only [intOf]; omega
        | some i =>
          have hI : idxI x.pts nm = (i : Int) := by unfold idxI; rw [hps]
          rw [hI]
          have hi0 : (0 : Int) ≤ (i : Int) := by omega
          by_cases hia : i < na
          · obtain ⟨c, hc⟩ := some_of_lt (l := x.ats) (j := i) (by rw [← HNA.out]; exact hia)
            obtain ⟨b2, o2, rfl, -, hq4, hq5, -, -, z0, z1⟩ := (HA.out.on (HX4.out.trans HX1.out)).cellAt hc
            have HPL : Hid (placesS x (names.take (k + 1)) = some (cs ++ [c])) := hid (by
              rw [HTK.out, placesS_snoc, HT2.out.2]
              unfold placeS
              rw [hps, Option.bind_some, hc])
            obtain ⟨u, z⟩ := c
            simp only at z0 z1 HPL
            have HDL : Hid (cs.length ≤ 1000000000) := hid (by have := HCL.out; omega)
            have HBS2 : Hid (m4.heap.size ≤ w1.heap.size) := hid HX1.out.size
            have hd : decide (i < na) = true := decide_eq_true hia
            clear hI hps hc
            go_wp2_with (at_builtin; refine wpList_append_new _ rfl (.tmp 44) (.tmp 50) 153 rfl m4.heap.size 89 (.agg #[.int .i64 0, .int .i64 0]) 2 16 Tryz.underlying153 Tryz.infoCoord rfl (by decide) _ _ _ rfl HO1.out #[.int .i64 u, .int .i64 z] rfl (pow_cells _ _) rfl HDL.out (by decide) HBS2.out ?_; intro v1 w2 hown hg _; have HOW := hid hown; have HG := hid hg; clear hown hg)
            go_roundw
            case rel =>
              refine ⟨k + 1, true, cs ++ [(u, z)], by omega, by go_num, rfl, hid (fun _ => ⟨HT2.out.1, HPL.out⟩), hid (fun h => by cases h), hid ?_, own_grown0 HX1.out HO1.out HG.out, hid (by have := HCL.out; rw [List.length_append, List.length_singleton]; omega)⟩
              rw [flatP_append, List.length_append]
              have h1 := HOW.out
              simpa [flatP] using h1
            case measure => simp only [intOf]; omega
          · have HF2 : Hid (placesS x (names.take (k + 1)) = none) := hid (by
              rw [HTK.out, placesS_snoc]
              unfold placeS
              rw [hps, Option.bind_some, List.getElem?_eq_none (by rw [← HNA.out]; omega)]
              cases placesS x (names.take k) <;> rfl)
            have hd : decide (i < na) = false := decide_eq_false hia
            clear hI hps hia
            go_wp2
            go_roundw
            case rel => exact ⟨k + 1, false, cs, by omega, by go_num, rfl, hid (fun h => by cases h), hid (fun _ => .inr HF2.out), HO1, HX1.out, hid (by have := HCL.out; omega)⟩
            case measure => simp only [intOf]; omega
    · obtain rfl : n = k := by omega
      have HTN : Hid (names.take n = names) := hid (by rw [HNN.out]; exact List.take_length)
      cases ok with
      | false =>
        have HE : Hid (condX x wd names = (5, [])) := hid (by
          unfold condX
          rcases HF.out rfl with h | h
          · rw [HOK0.out] at h
            cases ha : askW wd with
            | none => rfl
            | some q => rw [ha] at h; cases h
          · rw [HTN.out] at h
            rw [h]
            cases askW wd <;> rfl)
        clear hxr
        go_wp2
        all_goals
          go_ret2
          rw [HE.out]
          exact ⟨_, rfl, Terms.nilv _ _ _ _ (by decide), HX4.out.trans HX.out⟩
      | true =>
        have HPS : Hid (placesS x names = some cs) := hid (by have h := (HT.out rfl).2; rwa [HTN.out] at h)
        obtain ⟨a, HAW⟩ : ∃ a, Hid (askW wd = some a) := by
          have h := (HT.out rfl).1
          rw [HOK0.out] at h
          cases ha : askW wd with
          | none => rw [ha] at h; cases h
          | some a => exact ⟨a, hid rfl⟩
        have hqa : q = (a : Int) := by rw [HQ.out]; unfold askI; rw [HAW.out]
        subst hqa
        by_cases hna : n = a
        · have HE : Hid (condX x wd names = (0, condP wd cs)) := hid (by
            unfold condX
            rw [HAW.out, HPS.out]
            exact if_pos (by rw [← HNN.out]; exact hna))
          have hcl := placesS_len HPS.out
          have hsp := (own_pows HO.out (fun c hc => by have h := HOK.out c (placesS_mem HPS.out c hc); unfold Ok2 at h; unfold inI64; omega)).to (S' := Old wr) (Kept.refl _ _) (fun _ h => h.2)
          have CC := hid (spots_condition wd hsp (fun c hc => HOK.out c (placesS_mem HPS.out c hc)) (by rw [HAW.out, hcl, ← HNN.out, hna]))
          unfold Val1 at CC
          have qe : ((n : Int) != (a : Int)) = false := by rw [hna]; simp
          obtain ⟨a2, c2, hsf⟩ := hsp.form
          subst hsf
          clear hxr hcl hsp
          go_wp2_with fail
          with_reducible refine CC.out.mono ?_
          rintro e w2 ⟨v2, rfl, hp2, hx2⟩
          have HP2 := hid (hp2.to (S' := New W w2) (Kept.refl _ _) (New.mono (HX4.out.trans HX.out)))
          have HX2 := hid ((HX4.out.trans HX.out).trans hx2)
          clear hp2 hx2
          go_wp2
          all_goals
            go_ret2
            rw [HE.out]
            exact ⟨_, rfl, HP2.out, HX2.out⟩
        · have HE : Hid (condX x wd names = (13, [])) := hid (by
            unfold condX
            rw [HAW.out, HPS.out]
            exact if_neg (by rw [← HNN.out]; exact hna))
          have qe : ((n : Int) != (a : Int)) = true := by rw [bne_iff_ne]; omega
          clear hxr hna
          go_wp2
          all_goals
            go_ret2
            rw [HE.out]
            exact ⟨_, rfl, Terms.nilv _ _ _ _ (by decide), HX4.out.trans HX.out⟩
end Go.Proofs.YtbhdgdmelepnhaaGreat

namespace Go.Proofs.YtbhdgdmelepnhaaGreat
open Go.RowKit

def placeI (x : Lay) (nm : ByteArray) : Int := match posS x.pts nm with
  | some i => if i < x.ats.length then (i : Int) else -1
  | none => -1
set_option maxRecDepth 100000 in
set_option maxHeartbeats 16000000 in
theorem ref_place {W : World} {v : Value} {x : Lay} (hx : LayV (Old W) W v x) (nm : ByteArray) :
    Calls Tryz.prog 62 #[v, .string nm] W fun e w' => e = .returned (.int .i64 (placeI x nm)) ∧ Ext W w' := by
  obtain ⟨vp, va, rfl, hp, ha⟩ := hx
  have HP := hid hp
  have hlp := hp.len_le
  have hla := ha.len_le
  obtain ⟨ap, cp, rfl⟩ := hp.form
  obtain ⟨aa, ca, rfl⟩ := ha.form
  obtain ⟨np, hnp⟩ : ∃ n, n = x.pts.length := ⟨_, rfl⟩
  obtain ⟨na, hna⟩ : ∃ n, n = x.ats.length := ⟨_, rfl⟩
  rw [← hnp] at HP hlp ⊢
  rw [← hna] at hla ⊢
  have HNP := hid hnp
  have HNA := hid hna
  have HB := hid (fun (Y : World) (hY : Ext (W.alloc (.cells #[.slice ap np cp, .slice aa na ca, .int .i64 x.par, .int .i64 x.vrs] 35)) Y) => blk_new4 W (.slice ap np cp) (.slice aa na ca) (.int .i64 x.par) (.int .i64 x.vrs) 35 hY)
  have HX0 := hid (Ext.alloc (Ext.refl W) (.cells #[.slice ap np cp, .slice aa na ca, .int .i64 x.par, .int .i64 x.vrs] 35))
  obtain ⟨w0, hw0⟩ : ∃ Y, Y = W.alloc (.cells #[.slice ap np cp, .slice aa na ca, .int .i64 x.par, .int .i64 x.vrs] 35) := ⟨_, rfl⟩
  rw [← hw0] at HB HX0
  clear hp ha hnp hna
  go_enter Tryz.func62, Tryz.ntmps62
  go_wp2
  rw [← hw0]
  clear hw0
  go_loopw [5] (fun i wr => ∃ k : Nat, k ≤ np ∧ i = .int .i64 k ∧ Ext w0 wr ∧ Hid (∀ y ∈ x.pts.take k, y ≠ nm)) (fun i _ => np - (intOf i).toNat)
  case atStart => exact ⟨0, Nat.zero_le _, rfl, Ext.refl _, fun y hy => by simp at hy⟩
  case round =>
    obtain ⟨k, hk, rfl, hxr, HE⟩ := hrel
    have HX := hid hxr
    obtain ⟨c0, c1⟩ := HB.out _ hxr
    by_cases hlt : k < np
    · obtain ⟨y, hy⟩ := some_of_lt (l := x.pts) (j := k) (by rw [← HNP.out]; exact hlt)
      obtain ⟨b1, o1, rfl, -, hq1, hq2, -, hq3⟩ := (HP.out.to (Kept.ext (HX0.out.trans hxr) (fun _ h => h)) (old_lt (HX0.out.trans hxr))).cellAt hy
      have HY := hid hy
      clear hy hxr
      by_cases he : y = nm
      · have q1 := str_eq he
        have HPS : Hid (posS x.pts nm = some k) := hid (posS_hit (by rw [HY.out, he]) HE.out)
        clear he
        by_cases hkn : k < na
        · have HI : Hid (placeI x nm = (k : Int)) := hid (by unfold placeI; rw [HPS.out]; exact if_pos (by rw [← HNA.out]; exact hkn))
          have q2 : decide (k < na) = true := decide_eq_true hkn
          go_wp2
          all_goals
            go_ret
            exact ⟨by rw [HI.out]; rfl, HX0.out.trans HX.out⟩
        · have HI : Hid (placeI x nm = -1) := hid (by unfold placeI; rw [HPS.out]; exact if_neg (by rw [← HNA.out]; exact hkn))
          have q2 : decide (k < na) = false := decide_eq_false hkn
          clear hkn
          go_wp2
          all_goals
            go_ret
            exact ⟨by rw [HI.out]; rfl, HX0.out.trans HX.out⟩
      · have q1 := str_ne he
        have H0 := hid he
        clear he
        go_wp2
        go_roundw
        case rel => exact ⟨k + 1, by omega, by go_num, HX.out, fun z hz => by
          rw [List.take_add_one, HY.out] at hz
          rcases List.mem_append.1 hz with hz | hz
          · exact HE.out z hz
          · have : z = y := by simpa using hz
            rw [this]; exact H0.out⟩
        case measure => simp only [intOf]; omega
    · obtain rfl : np = k := by omega
      have HI : Hid (placeI x nm = -1) := hid (by
        have h := HE.out
        rw [List.take_of_length_le (by rw [← HNP.out]; exact Nat.le_refl _)] at h
        unfold placeI; rw [posS_miss h])
      clear hxr
      go_wp2
      all_goals
        go_ret
        exact ⟨by rw [HI.out]; rfl, HX0.out.trans HX.out⟩
theorem place_eq (x : Lay) (nm : ByteArray) : (placeI x nm = -1 ∧ placeS x nm = none) ∨ ∃ (i : Nat) (c : Int × Int), placeI x nm = (i : Int) ∧ x.ats[i]? = some c ∧ placeS x nm = some c := by
  unfold placeI placeS
  cases h : posS x.pts nm with
  | none => exact .inl ⟨rfl, rfl⟩
  | some i =>
    by_cases hi : i < x.ats.length
    · obtain ⟨c, hc⟩ := some_of_lt hi
      exact .inr ⟨i, c, if_pos hi, hc, by rw [Option.bind_some, hc]⟩
    · exact .inl ⟨if_neg hi, by rw [Option.bind_some, List.getElem?_eq_none (by omega)]⟩
end Go.Proofs.YtbhdgdmelepnhaaGreat

namespace Go.Proofs.YtbhdgdmelepnhaaGreat
open Go.RowKit

theorem condX_at {x : Lay} {wd : ByteArray} {names : List ByteArray} {a : Nat} {cs : List (Int × Int)} (h1 : askW wd = some a) (h2 : placesS x names = some cs) : condX x wd names = if names.length = a then (0, condP wd cs) else (13, []) := by
  unfold condX; rw [h1, h2]
theorem condX_no {x : Lay} {wd : ByteArray} {names : List ByteArray} (h2 : placesS x names = none) : condX x wd names = (5, []) := by
  unfold condX; rw [h2]; cases askW wd <;> rfl
theorem placesS_take_none {x : Lay} : ∀ {l : List ByteArray} {k : Nat}, placesS x (l.take k) = none → placesS x l = none
  | [], k, h => by simp [placesS] at h
  | m :: r, 0, h => by simp [placesS] at h
  | m :: r, k + 1, h => by
    rw [List.take_succ_cons] at h
    unfold placesS at h ⊢
    cases hm : placeS x m with
    | none => rfl
    | some c =>
      rw [hm] at h
      cases hr : placesS x (r.take k) with
      | none => rw [placesS_take_none hr]
      | some l => rw [hr] at h; cases h
set_option maxRecDepth 100000 in
set_option maxHeartbeats 16000000 in
theorem ref_condition {W : World} {v vn : Value} {x : Lay} {wd : ByteArray} {names : List ByteArray} (hx : LayV (Old W) W v x) (hok : ∀ c ∈ x.ats, Ok2 c) (hn : Strs (Old W) W vn names) (hnl : names.length ≤ 1000) :
    Calls Tryz.prog 24 #[v, .string wd, vn] W fun e w' => ∃ v', e = .returned (.tuple #[v', .int .i64 (condX x wd names).1]) ∧ Terms (Old w') w' v' (ofP (condX x wd names).2) ∧ Ext W w' := by
  have HXL := hid hx
  have HOK := hid hok
  obtain ⟨vp, va, rfl, hp, ha⟩ := hx
  have HA := hid ha
  have HN := hid hn
  have hla := ha.len_le
  obtain ⟨ap, cp, rfl⟩ := hp.form
  obtain ⟨aa, ca, rfl⟩ := ha.form
  obtain ⟨an, cn, rfl⟩ := hn.form
  obtain ⟨n, hnn⟩ : ∃ n, n = names.length := ⟨_, rfl⟩
  obtain ⟨np, hnp⟩ : ∃ n, n = x.pts.length := ⟨_, rfl⟩
  obtain ⟨na, hna⟩ : ∃ n, n = x.ats.length := ⟨_, rfl⟩
  rw [← hnn] at HN hnl ⊢
  rw [← hna] at HA HXL hla ⊢
  rw [← hnp] at HXL ⊢
  have HNN := hid hnn
  have HNA := hid hna
  obtain ⟨w0, hw0⟩ : ∃ Y, Y = W.alloc (.cells #[.slice ap np cp, .slice aa na ca, .int .i64 x.par, .int .i64 x.vrs] 35) := ⟨_, rfl⟩
  have HX0 : Hid (Ext W w0) := hid (by rw [hw0]; exact Ext.alloc (Ext.refl _) _)
  have HB := hid (fun (Y : World) (hY : Ext w0 Y) => by
    rw [hw0] at hY
    have k0 : ∀ (i : Nat) (u : Value), #[Value.slice ap np cp, .slice aa na ca, .int .i64 x.par, .int .i64 x.vrs][i]? = some u → Y.cell? ⟨W.heap.size, i, none⟩ = some u := fun i u hu => hY.cell (cell_new W _ _ rfl hu)
    exact And.intro (k0 0 _ rfl) (And.intro (k0 1 _ rfl) (And.intro (k0 2 _ rfl) (k0 3 _ rfl))))
  clear hp ha hn hok hnn hnp hna
  cases haw : askW wd with
  | none =>
    have HE : Hid (condX x wd names = (5, [])) := hid (by unfold condX; rw [haw])
    have h1 : wd ≠ wUnlike := fun e => by rw [e] at haw; cases haw
    have h2 : wd ≠ wApart := fun e => by rw [e] at haw; cases haw
    have h3 : wd ≠ wCross := fun e => by rw [e] at haw; cases haw
    have h4 : wd ≠ wDot := fun e => by rw [e] at haw; cases haw
    have q1 := noUnlike h1
    have q2 := noApart h2
    have q3 := noCross h3
    have q4 := noDot h4
    rw [hw0] at HX0
    clear h1 h2 h3 h4 haw hw0
    go_enter Tryz.func24, Tryz.ntmps24
    go_wp2
    all_goals
      go_ret2
      rw [HE.out]
      exact ⟨_, rfl, Terms.nilv _ _ _ _ (by decide), HX0.out⟩
  | some a =>
    have HAW := hid haw
    have HW0 := hid hw0
    clear hw0 haw
    go_enter Tryz.func24, Tryz.ntmps24
    go_upto_block 0 with fail
    rw [← HW0.out]
    go_cut [8] (fun u8 wx => u8 = .int .i64 (a : Int) ∧ wx = w0)
    case first =>
      have hask := HAW.out
      by_cases hU : wd = wUnlike
      · obtain rfl : 2 = a := by unfold askW at hask; rw [if_pos hU] at hask; exact Option.some.inj hask
        have q1 := isUnlike hU
        clear hU hask
        go_wp2
        go_meet
        exact ⟨rfl, rfl⟩
      · by_cases hP : wd = wApart
        · obtain rfl : 3 = a := by unfold askW at hask; rw [if_neg hU, if_pos hP] at hask; exact Option.some.inj hask
          have q1 := noUnlike hU
          have q2 := isApart hP
          clear hU hP hask
          go_wp2
          go_meet
          exact ⟨rfl, rfl⟩
        · by_cases hC : wd = wCross
          · obtain rfl : 4 = a := by unfold askW at hask; rw [if_neg hU, if_neg hP, if_pos hC] at hask; exact Option.some.inj hask
            have q1 := noUnlike hU
            have q2 := noApart hP
            have q3 := isCross hC
            clear hU hP hC hask
            go_wp2
            go_meet
            exact ⟨rfl, rfl⟩
          · have hD : wd = wDot := by
              unfold askW at hask
              rw [if_neg hU, if_neg hP, if_neg hC] at hask
              by_cases h : wd = wDot
              · exact h
              · rw [if_neg h] at hask; cases hask
            obtain rfl : 4 = a := by unfold askW at hask; rw [if_neg hU, if_neg hP, if_neg hC, if_pos hD] at hask; exact Option.some.inj hask
            have q1 := noUnlike hU
            have q2 := noApart hP
            have q3 := noCross hC
            have q4 := isDot hD
            clear hU hP hC hD hask
            go_wp2
            go_meet
            exact ⟨rfl, rfl⟩
    case rest =>
      obtain ⟨rfl, e⟩ := hcut
      have e2 := e.symm
      subst e2
      clear e
      go_wp2
      go_loopw [9, 10] (fun s i wr => ∃ (k : Nat) (cs : List (Int × Int)), k ≤ n ∧ i = .int .i64 k ∧ Hid (placesS x (names.take k) = some cs) ∧ Hid (wr.ownsRow w0.heap.size 89 2 s cs.length (flatP cs)) ∧ Ext w0 wr ∧ Hid (cs.length ≤ k)) (fun _ i _ => n - (intOf i).toNat)
      case atStart => exact ⟨0, [], Nat.zero_le _, rfl, hid rfl, hid (World.ownsRow_nil _ _ _ _), Ext.refl _, hid (Nat.le_refl _)⟩
      case round =>
        obtain ⟨k, cs, hk, rfl, HPS, HO, hxr, HCL⟩ := hrel
        have HX := hid hxr
        have HXW := hid (HX0.out.trans hxr)
        by_cases hlt : k < n
        · obtain ⟨nm, hnm⟩ := some_of_lt (l := names) (j := k) (by rw [← HNN.out]; exact hlt)
          obtain ⟨b1, o1, rfl, -, hq1, hq2, -, hq3⟩ := (HN.out.to (Kept.ext HXW.out (fun _ h => h)) (old_lt HXW.out)).cellAt hnm
          have HTK : Hid (names.take (k + 1) = names.take k ++ [nm]) := hid (by rw [List.take_add_one, hnm]; rfl)
          have HIX := hid (ref_place (x := x) (HXL.out.on ((HXW.out.trans (Ext.drew (Ext.refl wr))))) nm)
          have HCC : Hid (∀ Y, Ext wr Y → Y.cell? ⟨W.heap.size, 0, none⟩ = some (.slice ap np cp) ∧ Y.cell? ⟨W.heap.size, 1, none⟩ = some (.slice aa na ca) ∧ Y.cell? ⟨W.heap.size, 2, none⟩ = some (.int .i64 x.par) ∧ Y.cell? ⟨W.heap.size, 3, none⟩ = some (.int .i64 x.vrs) ∧ Y.cell? ⟨b1, o1 + k, none⟩ = some (.string nm)) := hid (fun Y h => by
            obtain ⟨c0, c1, c2, c3⟩ := HB.out Y (HX.out.trans h)
            exact ⟨c0, c1, c2, c3, h.cell hq3⟩)
          have S0 := HCC.out wr.drew (Ext.drew (Ext.refl _))
          have HO0 := HO
          clear hnm hxr hq3
          go_upto_region 15 with fail
          go_cut [11] (fun u11 wx => u11 = .int .i64 (placeI x nm) ∧ Ext wr wx)
          case first =>
            go_region_held3 (fun Y => Y.cell? ⟨W.heap.size, 0, none⟩ = some (.slice ap np cp) ∧ Y.cell? ⟨W.heap.size, 1, none⟩ = some (.slice aa na ca) ∧ Y.cell? ⟨W.heap.size, 2, none⟩ = some (.int .i64 x.par) ∧ Y.cell? ⟨W.heap.size, 3, none⟩ = some (.int .i64 x.vrs) ∧ Y.cell? ⟨b1, o1 + k, none⟩ = some (.string nm)) (first | exact S0 | exact S1)
              (first | (go_at_call 62; (with_reducible refine HIX.out.mono ?_); rintro e w1 ⟨rfl, hx1⟩; have HX1 := hid ((Ext.drew (Ext.refl wr)).trans hx1); have S1 := HCC.out _ HX1.out; clear hx1) | fail)
            all_goals
              go_wp2_with fail
              go_meet
              exact ⟨rfl, HX1.out⟩
          case rest =>
            obtain ⟨rfl, hx1⟩ := hcut
            have HX1' := hid hx1
            have HX1 := hid (HX.out.trans hx1)
            have HO1 := hid (own_ext HO.out hx1)
            obtain ⟨d0, d1, d2, d3⟩ := HB.out _ HX1.out
            have HBS2 : Hid (w0.heap.size ≤ wc.heap.size) := hid HX1.out.size
            clear hx1
            rcases place_eq x nm with ⟨hI, hP⟩ | ⟨i, c, hI, hc, hP⟩
            · rw [hI]
              have HE : Hid (condX x wd names = (5, [])) := hid (condX_no (placesS_take_none (k := k + 1) (by rw [HTK.out, placesS_snoc, HPS.out, hP])))
              clear hI hP
              go_wp2
              all_goals
                go_ret2
                rw [HE.out]
                exact ⟨_, rfl, Terms.nilv _ _ _ _ (by decide), HX0.out.trans HX1.out⟩
            · rw [hI]
              have hi0 : (0 : Int) ≤ (i : Int) := by omega
              have hia : i < na := by rw [HNA.out]; exact lt_of_some hc
              obtain ⟨b2, o2, rfl, -, hq4, hq5, -, -, z0, z1⟩ := (HA.out.on (HX0.out.trans HX1.out)).cellAt hc
              have HPL : Hid (placesS x (names.take (k + 1)) = some (cs ++ [c])) := hid (by rw [HTK.out, placesS_snoc, HPS.out, hP])
              obtain ⟨u, z⟩ := c
              simp only at z0 z1 HPL
              have HDL : Hid (cs.length ≤ 1000000000) := hid (by have := HCL.out; omega)
              clear hI hP hc
              go_wp2_with (at_builtin; refine wpList_append_new _ rfl (.tmp 35) (.tmp 41) 33 rfl w0.heap.size 89 (.agg #[.int .i64 0, .int .i64 0]) 2 16 Tryz.underlying33 Tryz.infoCoord rfl (by decide) _ _ _ rfl HO1.out #[.int .i64 u, .int .i64 z] rfl (pow_cells _ _) rfl HDL.out (by decide) HBS2.out ?_; intro v1 w2 hown hg _; have HOW := hid hown; have HG := hid hg; clear hown hg)
              go_roundw
              case rel =>
                refine ⟨k + 1, cs ++ [(u, z)], by omega, by go_num, hid HPL.out, hid ?_, own_grown0 HX1.out HO1.out HG.out, hid (by have := HCL.out; rw [List.length_append, List.length_singleton]; omega)⟩
                rw [flatP_append, List.length_append]
                have h1 := HOW.out
                simpa [flatP] using h1
              case measure => simp only [intOf]; omega
        · obtain rfl : n = k := by omega
          have HTN : Hid (names.take n = names) := hid (by rw [HNN.out]; exact List.take_length)
          have HPN : Hid (placesS x names = some cs) := hid (by rw [← HTN.out]; exact HPS.out)
          have HOC : Hid (∀ c ∈ cs, Ok2 c) := hid (fun c hc => HOK.out c (placesS_mem HPN.out c hc))
          have hcl : cs.length = n := by rw [HNN.out]; exact placesS_len HPN.out
          have hsp := (own_pows HO.out (fun c hc => by have h := HOC.out c hc; unfold Ok2 at h; unfold inI64; omega)).to (S' := Old wr) (Kept.refl _ _) (fun _ h => h.2)
          obtain ⟨a2, c2, hsf⟩ := hsp.form
          subst hsf
          rw [hcl] at hsp
          have HSP := hid hsp
          have HCLN := hid hcl
          rw [hcl]
          clear hxr hsp hcl
          by_cases hna : n = a
          · have HE : Hid (condX x wd names = (0, condP wd cs)) := hid (by rw [condX_at HAW.out HPN.out]; exact if_pos (by rw [← HNN.out]; exact hna))
            subst hna
            have qe : ((n : Int) != (n : Int)) = false := by simp
            have hcl := HCLN.out
            by_cases hU : wd = wUnlike
            · have hn2 : cs.length = 2 := by have h := HAW.out; unfold askW at h; rw [if_pos hU] at h; have := Option.some.inj h; omega
              obtain rfl : 2 = n := by have := HCLN.out; omega
              have HE2 : Hid (condP wd cs = dotP (cs.getD 0 (1, 1)) (cs.getD 1 (1, 1)) (cs.getD 0 (1, 1)) (cs.getD 1 (1, 1))) := hid (by unfold condP; rw [if_pos hU])
              have C := hid (fun (Y : World) => ref_dot Y (ok_getD HOC.out 0) (ok_getD HOC.out 1) (ok_getD HOC.out 0) (ok_getD HOC.out 1))
              have qUnlike := isUnlike hU
              obtain ⟨b0, o0, e0, -, hq0, hr0, -, -, x0, y0⟩ := HSP.out.cellAt (at_getD (cs := cs) (j := 0) (by omega))
              obtain ⟨b1, o1, e1, -, hq1, hr1, -, -, x1, y1⟩ := HSP.out.cellAt (at_getD (cs := cs) (j := 1) (by omega))
              subst e0
              obtain ⟨rfl, rfl⟩ : b0 = b1 ∧ o0 = o1 := by simpa using e1
              obtain ⟨c0, hc0⟩ : ∃ c, c = cs.getD 0 (1, 1) := ⟨_, rfl⟩
              obtain ⟨c1, hc1⟩ : ∃ c, c = cs.getD 1 (1, 1) := ⟨_, rfl⟩
              rw [← hc0, ← hc1] at C HE2
              rw [← hc0] at x0 y0
              rw [← hc1] at x1 y1
              obtain ⟨p0, r0⟩ := c0
              obtain ⟨p1, r1⟩ := c1
              simp only at x0 y0 x1 y1 C
              have HFC := hid (fit_cond wd HOC.out)
              rw [HE2.out] at HFC
              clear hU hn2 hcl hc0 hc1 e1
              have HCL2 : Hid (∀ Y, Ext wr Y → Y.cell? ⟨b0, o0, none⟩ = some (.int .i64 p0) ∧ Y.cell? ⟨b0, o0 + 1, none⟩ = some (.int .i64 r0) ∧ Y.cell? ⟨b0, o0 + 2, none⟩ = some (.int .i64 p1) ∧ Y.cell? ⟨b0, o0 + 3, none⟩ = some (.int .i64 r1)) := hid (fun Y h => ⟨h.cell x0, h.cell y0, h.cell x1, h.cell y1⟩)
              have S0 := fun (T : TypeId) => HCL2.out _ (((Ext.refl wr).alloc (.cells #[] T)).drew)
              go_wp2
              go_region_held3 (fun Y => Y.cell? ⟨b0, o0, none⟩ = some (.int .i64 p0) ∧ Y.cell? ⟨b0, o0 + 1, none⟩ = some (.int .i64 r0) ∧ Y.cell? ⟨b0, o0 + 2, none⟩ = some (.int .i64 p1) ∧ Y.cell? ⟨b0, o0 + 3, none⟩ = some (.int .i64 r1)) (first | exact S0 _ | exact S1) (first | (go_at_call 63; (with_reducible refine (C.out _).mono ?_); rintro e w5 ⟨v5, rfl, hp5, hx5⟩; have HX5 := hid ((((Ext.refl wr).alloc _).drew).trans hx5); have S1 := HCL2.out _ HX5.out; have HP5 := hid hp5; obtain ⟨a5, k5, rfl⟩ := hp5.form; clear hx5 hp5) | fail)
              all_goals
                go_wp2_with (go_at_call 20; (with_reducible refine (rz_poly HP5.out HFC.out (by decide) (by decide)).mono ?_); rintro e w6 ⟨v6, rfl, hp6, hx6⟩; have HX6 := hid ((HXW.out.trans HX5.out).trans hx6); have HP6 := hid hp6; obtain ⟨a6, k6, rfl⟩ := hp6.form; clear hx6 hp6)
                go_ret2
                rw [HE.out]
                exact ⟨_, rfl, by rw [HE2.out]; exact HP6.out, HX6.out⟩
            · by_cases hP : wd = wApart
              · have hn2 : cs.length = 3 := by have h := HAW.out; unfold askW at h; rw [if_neg hU, if_pos hP] at h; have := Option.some.inj h; omega
                obtain rfl : 3 = n := by have := HCLN.out; omega
                have HE2 : Hid (condP wd cs = crossP (cs.getD 0 (1, 1)) (cs.getD 1 (1, 1)) (cs.getD 0 (1, 1)) (cs.getD 2 (1, 1))) := hid (by unfold condP; rw [if_neg hU, if_pos hP])
                have C := hid (fun (Y : World) => ref_cross Y (ok_getD HOC.out 0) (ok_getD HOC.out 1) (ok_getD HOC.out 0) (ok_getD HOC.out 2))
                have qUnlike := noUnlike hU
                have qApart := isApart hP
                obtain ⟨b0, o0, e0, -, hq0, hr0, -, -, x0, y0⟩ := HSP.out.cellAt (at_getD (cs := cs) (j := 0) (by omega))
                obtain ⟨b1, o1, e1, -, hq1, hr1, -, -, x1, y1⟩ := HSP.out.cellAt (at_getD (cs := cs) (j := 1) (by omega))
                obtain ⟨b2, o2, e2, -, hq2, hr2, -, -, x2, y2⟩ := HSP.out.cellAt (at_getD (cs := cs) (j := 2) (by omega))
                subst e0
                obtain ⟨rfl, rfl⟩ : b0 = b1 ∧ o0 = o1 := by simpa using e1
                obtain ⟨rfl, rfl⟩ : b0 = b2 ∧ o0 = o2 := by simpa using e2
                obtain ⟨c0, hc0⟩ : ∃ c, c = cs.getD 0 (1, 1) := ⟨_, rfl⟩
                obtain ⟨c1, hc1⟩ : ∃ c, c = cs.getD 1 (1, 1) := ⟨_, rfl⟩
                obtain ⟨c2, hc2⟩ : ∃ c, c = cs.getD 2 (1, 1) := ⟨_, rfl⟩
                rw [← hc0, ← hc1, ← hc2] at C HE2
                rw [← hc0] at x0 y0
                rw [← hc1] at x1 y1
                rw [← hc2] at x2 y2
                obtain ⟨p0, r0⟩ := c0
                obtain ⟨p1, r1⟩ := c1
                obtain ⟨p2, r2⟩ := c2
                simp only at x0 y0 x1 y1 x2 y2 C
                have HFC := hid (fit_cond wd HOC.out)
                rw [HE2.out] at HFC
                clear hU hP hn2 hcl hc0 hc1 hc2 e1 e2
                have HCL2 : Hid (∀ Y, Ext wr Y → Y.cell? ⟨b0, o0, none⟩ = some (.int .i64 p0) ∧ Y.cell? ⟨b0, o0 + 1, none⟩ = some (.int .i64 r0) ∧ Y.cell? ⟨b0, o0 + 2, none⟩ = some (.int .i64 p1) ∧ Y.cell? ⟨b0, o0 + 3, none⟩ = some (.int .i64 r1) ∧ Y.cell? ⟨b0, o0 + 4, none⟩ = some (.int .i64 p2) ∧ Y.cell? ⟨b0, o0 + 5, none⟩ = some (.int .i64 r2)) := hid (fun Y h => ⟨h.cell x0, h.cell y0, h.cell x1, h.cell y1, h.cell x2, h.cell y2⟩)
                have S0 := fun (T : TypeId) => HCL2.out _ (((Ext.refl wr).alloc (.cells #[] T)).drew)
                go_wp2
                go_region_held3 (fun Y => Y.cell? ⟨b0, o0, none⟩ = some (.int .i64 p0) ∧ Y.cell? ⟨b0, o0 + 1, none⟩ = some (.int .i64 r0) ∧ Y.cell? ⟨b0, o0 + 2, none⟩ = some (.int .i64 p1) ∧ Y.cell? ⟨b0, o0 + 3, none⟩ = some (.int .i64 r1) ∧ Y.cell? ⟨b0, o0 + 4, none⟩ = some (.int .i64 p2) ∧ Y.cell? ⟨b0, o0 + 5, none⟩ = some (.int .i64 r2)) (first | exact S0 _ | exact S1) (first | (go_at_call 64; (with_reducible refine (C.out _).mono ?_); rintro e w5 ⟨v5, rfl, hp5, hx5⟩; have HX5 := hid ((((Ext.refl wr).alloc _).drew).trans hx5); have S1 := HCL2.out _ HX5.out; have HP5 := hid hp5; obtain ⟨a5, k5, rfl⟩ := hp5.form; clear hx5 hp5) | fail)
                all_goals
                  go_wp2_with (go_at_call 20; (with_reducible refine (rz_poly HP5.out HFC.out (by decide) (by decide)).mono ?_); rintro e w6 ⟨v6, rfl, hp6, hx6⟩; have HX6 := hid ((HXW.out.trans HX5.out).trans hx6); have HP6 := hid hp6; obtain ⟨a6, k6, rfl⟩ := hp6.form; clear hx6 hp6)
                  go_ret2
                  rw [HE.out]
                  exact ⟨_, rfl, by rw [HE2.out]; exact HP6.out, HX6.out⟩
              · by_cases hC : wd = wCross
                · have hn2 : cs.length = 4 := by have h := HAW.out; unfold askW at h; rw [if_neg hU, if_neg hP, if_pos hC] at h; have := Option.some.inj h; omega
                  obtain rfl : 4 = n := by have := HCLN.out; omega
                  have HE2 : Hid (condP wd cs = crossP (cs.getD 0 (1, 1)) (cs.getD 1 (1, 1)) (cs.getD 2 (1, 1)) (cs.getD 3 (1, 1))) := hid (by unfold condP; rw [if_neg hU, if_neg hP, if_pos hC])
                  have C := hid (fun (Y : World) => ref_cross Y (ok_getD HOC.out 0) (ok_getD HOC.out 1) (ok_getD HOC.out 2) (ok_getD HOC.out 3))
                  have qUnlike := noUnlike hU
                  have qApart := noApart hP
                  have qCross := isCross hC
                  obtain ⟨b0, o0, e0, -, hq0, hr0, -, -, x0, y0⟩ := HSP.out.cellAt (at_getD (cs := cs) (j := 0) (by omega))
                  obtain ⟨b1, o1, e1, -, hq1, hr1, -, -, x1, y1⟩ := HSP.out.cellAt (at_getD (cs := cs) (j := 1) (by omega))
                  obtain ⟨b2, o2, e2, -, hq2, hr2, -, -, x2, y2⟩ := HSP.out.cellAt (at_getD (cs := cs) (j := 2) (by omega))
                  obtain ⟨b3, o3, e3, -, hq3, hr3, -, -, x3, y3⟩ := HSP.out.cellAt (at_getD (cs := cs) (j := 3) (by omega))
                  subst e0
                  obtain ⟨rfl, rfl⟩ : b0 = b1 ∧ o0 = o1 := by simpa using e1
                  obtain ⟨rfl, rfl⟩ : b0 = b2 ∧ o0 = o2 := by simpa using e2
                  obtain ⟨rfl, rfl⟩ : b0 = b3 ∧ o0 = o3 := by simpa using e3
                  obtain ⟨c0, hc0⟩ : ∃ c, c = cs.getD 0 (1, 1) := ⟨_, rfl⟩
                  obtain ⟨c1, hc1⟩ : ∃ c, c = cs.getD 1 (1, 1) := ⟨_, rfl⟩
                  obtain ⟨c2, hc2⟩ : ∃ c, c = cs.getD 2 (1, 1) := ⟨_, rfl⟩
                  obtain ⟨c3, hc3⟩ : ∃ c, c = cs.getD 3 (1, 1) := ⟨_, rfl⟩
                  rw [← hc0, ← hc1, ← hc2, ← hc3] at C HE2
                  rw [← hc0] at x0 y0
                  rw [← hc1] at x1 y1
                  rw [← hc2] at x2 y2
                  rw [← hc3] at x3 y3
                  obtain ⟨p0, r0⟩ := c0
                  obtain ⟨p1, r1⟩ := c1
                  obtain ⟨p2, r2⟩ := c2
                  obtain ⟨p3, r3⟩ := c3
                  simp only at x0 y0 x1 y1 x2 y2 x3 y3 C
                  have HFC := hid (fit_cond wd HOC.out)
                  rw [HE2.out] at HFC
                  clear hU hP hC hn2 hcl hc0 hc1 hc2 hc3 e1 e2 e3
                  have HCL2 : Hid (∀ Y, Ext wr Y → Y.cell? ⟨b0, o0, none⟩ = some (.int .i64 p0) ∧ Y.cell? ⟨b0, o0 + 1, none⟩ = some (.int .i64 r0) ∧ Y.cell? ⟨b0, o0 + 2, none⟩ = some (.int .i64 p1) ∧ Y.cell? ⟨b0, o0 + 3, none⟩ = some (.int .i64 r1) ∧ Y.cell? ⟨b0, o0 + 4, none⟩ = some (.int .i64 p2) ∧ Y.cell? ⟨b0, o0 + 5, none⟩ = some (.int .i64 r2) ∧ Y.cell? ⟨b0, o0 + 6, none⟩ = some (.int .i64 p3) ∧ Y.cell? ⟨b0, o0 + 7, none⟩ = some (.int .i64 r3)) := hid (fun Y h => ⟨h.cell x0, h.cell y0, h.cell x1, h.cell y1, h.cell x2, h.cell y2, h.cell x3, h.cell y3⟩)
                  have S0 := fun (T : TypeId) => HCL2.out _ (((Ext.refl wr).alloc (.cells #[] T)).drew)
                  go_wp2
                  go_region_held3 (fun Y => Y.cell? ⟨b0, o0, none⟩ = some (.int .i64 p0) ∧ Y.cell? ⟨b0, o0 + 1, none⟩ = some (.int .i64 r0) ∧ Y.cell? ⟨b0, o0 + 2, none⟩ = some (.int .i64 p1) ∧ Y.cell? ⟨b0, o0 + 3, none⟩ = some (.int .i64 r1) ∧ Y.cell? ⟨b0, o0 + 4, none⟩ = some (.int .i64 p2) ∧ Y.cell? ⟨b0, o0 + 5, none⟩ = some (.int .i64 r2) ∧ Y.cell? ⟨b0, o0 + 6, none⟩ = some (.int .i64 p3) ∧ Y.cell? ⟨b0, o0 + 7, none⟩ = some (.int .i64 r3)) (first | exact S0 _ | exact S1) (first | (go_at_call 64; (with_reducible refine (C.out _).mono ?_); rintro e w5 ⟨v5, rfl, hp5, hx5⟩; have HX5 := hid ((((Ext.refl wr).alloc _).drew).trans hx5); have S1 := HCL2.out _ HX5.out; have HP5 := hid hp5; obtain ⟨a5, k5, rfl⟩ := hp5.form; clear hx5 hp5) | fail)
                  all_goals
                    go_wp2_with (go_at_call 20; (with_reducible refine (rz_poly HP5.out HFC.out (by decide) (by decide)).mono ?_); rintro e w6 ⟨v6, rfl, hp6, hx6⟩; have HX6 := hid ((HXW.out.trans HX5.out).trans hx6); have HP6 := hid hp6; obtain ⟨a6, k6, rfl⟩ := hp6.form; clear hx6 hp6)
                    go_ret2
                    rw [HE.out]
                    exact ⟨_, rfl, by rw [HE2.out]; exact HP6.out, HX6.out⟩
                · have hD : wd = wDot := by
                    have hask := HAW.out
                    unfold askW at hask
                    rw [if_neg hU, if_neg hP, if_neg hC] at hask
                    by_cases h : wd = wDot
                    · exact h
                    · rw [if_neg h] at hask; cases hask
                  have hn2 : cs.length = 4 := by have h := HAW.out; unfold askW at h; rw [if_neg hU, if_neg hP, if_neg hC, if_pos hD] at h; have := Option.some.inj h; omega
                  obtain rfl : 4 = n := by have := HCLN.out; omega
                  have HE2 : Hid (condP wd cs = dotP (cs.getD 0 (1, 1)) (cs.getD 1 (1, 1)) (cs.getD 2 (1, 1)) (cs.getD 3 (1, 1))) := hid (by unfold condP; rw [if_neg hU, if_neg hP, if_neg hC])
                  have C := hid (fun (Y : World) => ref_dot Y (ok_getD HOC.out 0) (ok_getD HOC.out 1) (ok_getD HOC.out 2) (ok_getD HOC.out 3))
                  have qUnlike := noUnlike hU
                  have qApart := noApart hP
                  have qCross := noCross hC
                  obtain ⟨b0, o0, e0, -, hq0, hr0, -, -, x0, y0⟩ := HSP.out.cellAt (at_getD (cs := cs) (j := 0) (by omega))
                  obtain ⟨b1, o1, e1, -, hq1, hr1, -, -, x1, y1⟩ := HSP.out.cellAt (at_getD (cs := cs) (j := 1) (by omega))
                  obtain ⟨b2, o2, e2, -, hq2, hr2, -, -, x2, y2⟩ := HSP.out.cellAt (at_getD (cs := cs) (j := 2) (by omega))
                  obtain ⟨b3, o3, e3, -, hq3, hr3, -, -, x3, y3⟩ := HSP.out.cellAt (at_getD (cs := cs) (j := 3) (by omega))
                  subst e0
                  obtain ⟨rfl, rfl⟩ : b0 = b1 ∧ o0 = o1 := by simpa using e1
                  obtain ⟨rfl, rfl⟩ : b0 = b2 ∧ o0 = o2 := by simpa using e2
                  obtain ⟨rfl, rfl⟩ : b0 = b3 ∧ o0 = o3 := by simpa using e3
                  obtain ⟨c0, hc0⟩ : ∃ c, c = cs.getD 0 (1, 1) := ⟨_, rfl⟩
                  obtain ⟨c1, hc1⟩ : ∃ c, c = cs.getD 1 (1, 1) := ⟨_, rfl⟩
                  obtain ⟨c2, hc2⟩ : ∃ c, c = cs.getD 2 (1, 1) := ⟨_, rfl⟩
                  obtain ⟨c3, hc3⟩ : ∃ c, c = cs.getD 3 (1, 1) := ⟨_, rfl⟩
                  rw [← hc0, ← hc1, ← hc2, ← hc3] at C HE2
                  rw [← hc0] at x0 y0
                  rw [← hc1] at x1 y1
                  rw [← hc2] at x2 y2
                  rw [← hc3] at x3 y3
                  obtain ⟨p0, r0⟩ := c0
                  obtain ⟨p1, r1⟩ := c1
                  obtain ⟨p2, r2⟩ := c2
                  obtain ⟨p3, r3⟩ := c3
                  simp only at x0 y0 x1 y1 x2 y2 x3 y3 C
                  have HFC := hid (fit_cond wd HOC.out)
                  rw [HE2.out] at HFC
                  clear hU hP hC hD hn2 hcl hc0 hc1 hc2 hc3 e1 e2 e3
                  have HCL2 : Hid (∀ Y, Ext wr Y → Y.cell? ⟨b0, o0, none⟩ = some (.int .i64 p0) ∧ Y.cell? ⟨b0, o0 + 1, none⟩ = some (.int .i64 r0) ∧ Y.cell? ⟨b0, o0 + 2, none⟩ = some (.int .i64 p1) ∧ Y.cell? ⟨b0, o0 + 3, none⟩ = some (.int .i64 r1) ∧ Y.cell? ⟨b0, o0 + 4, none⟩ = some (.int .i64 p2) ∧ Y.cell? ⟨b0, o0 + 5, none⟩ = some (.int .i64 r2) ∧ Y.cell? ⟨b0, o0 + 6, none⟩ = some (.int .i64 p3) ∧ Y.cell? ⟨b0, o0 + 7, none⟩ = some (.int .i64 r3)) := hid (fun Y h => ⟨h.cell x0, h.cell y0, h.cell x1, h.cell y1, h.cell x2, h.cell y2, h.cell x3, h.cell y3⟩)
                  have S0 := fun (T : TypeId) => HCL2.out _ (((Ext.refl wr).alloc (.cells #[] T)).drew)
                  go_wp2
                  go_region_held3 (fun Y => Y.cell? ⟨b0, o0, none⟩ = some (.int .i64 p0) ∧ Y.cell? ⟨b0, o0 + 1, none⟩ = some (.int .i64 r0) ∧ Y.cell? ⟨b0, o0 + 2, none⟩ = some (.int .i64 p1) ∧ Y.cell? ⟨b0, o0 + 3, none⟩ = some (.int .i64 r1) ∧ Y.cell? ⟨b0, o0 + 4, none⟩ = some (.int .i64 p2) ∧ Y.cell? ⟨b0, o0 + 5, none⟩ = some (.int .i64 r2) ∧ Y.cell? ⟨b0, o0 + 6, none⟩ = some (.int .i64 p3) ∧ Y.cell? ⟨b0, o0 + 7, none⟩ = some (.int .i64 r3)) (first | exact S0 _ | exact S1) (first | (go_at_call 63; (with_reducible refine (C.out _).mono ?_); rintro e w5 ⟨v5, rfl, hp5, hx5⟩; have HX5 := hid ((((Ext.refl wr).alloc _).drew).trans hx5); have S1 := HCL2.out _ HX5.out; have HP5 := hid hp5; obtain ⟨a5, k5, rfl⟩ := hp5.form; clear hx5 hp5) | fail)
                  all_goals
                    go_wp2_with (go_at_call 20; (with_reducible refine (rz_poly HP5.out HFC.out (by decide) (by decide)).mono ?_); rintro e w6 ⟨v6, rfl, hp6, hx6⟩; have HX6 := hid ((HXW.out.trans HX5.out).trans hx6); have HP6 := hid hp6; obtain ⟨a6, k6, rfl⟩ := hp6.form; clear hx6 hp6)
                    go_ret2
                    rw [HE.out]
                    exact ⟨_, rfl, by rw [HE2.out]; exact HP6.out, HX6.out⟩
          · have HE : Hid (condX x wd names = (13, [])) := hid (by rw [condX_at HAW.out HPN.out]; exact if_neg (by rw [← HNN.out]; exact hna))
            have qe : ((n : Int) != (a : Int)) = true := by rw [bne_iff_ne]; omega
            clear hna
            go_wp2
            all_goals
              go_ret2
              rw [HE.out]
              exact ⟨_, rfl, Terms.nilv _ _ _ _ (by decide), HXW.out⟩
end Go.Proofs.YtbhdgdmelepnhaaGreat

namespace Go.Proofs.YtbhdgdmelepnhaaGreat
open Go.RowKit Go.Shelf

def IdxPost (b : Bool) (w : World) (e : Ending) (w' : World) : Prop := ∃ i : Int, e = .returned (.int .i64 i) ∧ decide (0 ≤ i) = b ∧ Ext w w'
def hasM (v : Int) (m : Mono) : Bool := m.any fun w => decide (w.1 = v)
def hasV (v : Int) (ts : List RTerm) : Bool := ts.any fun t => hasM v t.m
set_option maxRecDepth 100000 in
set_option maxHeartbeats 4000000 in
theorem index_pows {S : Nat → Prop} (g : Nat) (pb : Value) (eg : ∀ args w, (callFunc g args).run Tryz.prog w = .ok (.enter g args) w) (pr : Int × Int → Bool) (ls : List (Int × Int)) (v : Value) (w : World) (h : Pows S w v ls) (hS : ∀ k, S k → k < w.heap.size)
    (hI : ∀ (t : Int × Int) (W : World), t ∈ ls → Ext w W → Calls Tryz.prog g #[.agg #[.int .i64 t.1, .int .i64 t.2], pb] W fun e W' => e = .returned (.bool (pr t)) ∧ Ext W W') :
    Calls Tryz.prog 149 #[v, .func (.func g) #[] #[pb]] w (IdxPost (ls.any pr) w) := by
  have HP := hid h
  have HI := hid hI
  have hll := h.len_le
  obtain ⟨a, c, rfl⟩ := h.form
  obtain ⟨n, hn⟩ : ∃ n, n = ls.length := ⟨_, rfl⟩
  rw [← hn] at HP hll ⊢
  have HN := hid hn
  clear h hI hn
  go_enter Tryz.func149, Tryz.ntmps149
  go_wp2
  go_loopw [8] (fun i wr => ∃ k : Nat, k ≤ n ∧ i = .int .i64 (k : Nat) ∧ Ext w wr ∧ Hid ((ls.take k).any pr = false)) (fun i _ => n - (intOf i).toNat)
  case atStart => exact ⟨0, Nat.zero_le _, rfl, Ext.refl _, rfl⟩
  case round =>
    obtain ⟨k, hk, rfl, hx, HF⟩ := hrel
    have HX := hid hx
    by_cases hlt : k < n
    · obtain ⟨t, hp⟩ := some_of_lt (l := ls) (j := k) (by rw [← HN.out]; exact hlt)
      obtain ⟨b, o, rfl, -, h2, h3, -, hz, h5, h6⟩ := (HP.out.ext hx hS).cellAt hp
      have CP := hid (HI.out t wr (List.mem_of_getElem? hp) hx)
      have HMP := hid (List.mem_of_getElem? hp)
      have HTK : Hid (ls.take (k + 1) = ls.take k ++ [t]) := hid (by rw [List.take_add_one, hp]; rfl)
      obtain ⟨tt, ht⟩ : ∃ z, z = pr t := ⟨_, rfl⟩
      rw [← ht] at CP
      have HT := hid ht
      clear hp ht hx
      go_wp2_with fail
      with_reducible refine CP.out.mono ?_
      rintro e w1 ⟨rfl, hx1⟩
      have HX1 := hid (HX.out.trans hx1)
      clear hx1
      cases tt with
      | true =>
        go_wp2
        all_goals
          go_ret
          refine ⟨_, rfl, ?_, HX1.out⟩
          rw [List.any_eq_true.2 ⟨t, HMP.out, HT.out.symm⟩]
          exact decide_eq_true (by omega)
      | false =>
        go_wp2
        go_roundw
        case rel =>
          refine ⟨k + 1, by omega, by go_num, HX1.out, ?_⟩
          show (ls.take (k + 1)).any pr = false
          rw [HTK.out, List.any_append, HF.out]
          simp [← HT.out]
        case measure => simp only [intOf]; omega
    · obtain rfl : k = n := by omega
      have HA : Hid (ls.any pr = false) := hid (by have h := HF.out; rwa [List.take_of_length_le (by rw [← HN.out]; exact Nat.le_refl _)] at h)
      go_wp2
      all_goals
        go_ret
        exact ⟨_, rfl, by rw [HA.out]; rfl, HX.out⟩
set_option maxRecDepth 100000 in
set_option maxHeartbeats 4000000 in
theorem contains_pows {S : Nat → Prop} (g : Nat) (pb : Value) (eg : ∀ args w, (callFunc g args).run Tryz.prog w = .ok (.enter g args) w) (pr : Int × Int → Bool) (ls : List (Int × Int)) (v : Value) (w : World) (h : Pows S w v ls) (hS : ∀ k, S k → k < w.heap.size)
    (hI : ∀ (t : Int × Int) (W : World), t ∈ ls → Ext w W → Calls Tryz.prog g #[.agg #[.int .i64 t.1, .int .i64 t.2], pb] W fun e W' => e = .returned (.bool (pr t)) ∧ Ext W W') :
    Calls Tryz.prog 132 #[v, .func (.func g) #[] #[pb]] w fun e w' => e = .returned (.bool (ls.any pr)) ∧ Ext w w' := by
  have CI := hid (index_pows g pb eg pr ls v w h hS hI)
  obtain ⟨a, c, rfl⟩ := h.form
  obtain ⟨n, hn⟩ : ∃ n, n = ls.length := ⟨_, rfl⟩
  rw [← hn] at CI ⊢
  clear h hI hn
  go_enter Tryz.func132, Tryz.ntmps132
  go_wp2_with fail
  with_reducible refine CI.out.mono ?_
  rintro e w1 ⟨i, rfl, hi, hx1⟩
  have HX1 := hid hx1
  have HI := hid hi
  clear hx1 hi
  go_wp2
  all_goals
    go_ret
    exact ⟨by first | rfl | (rw [HI.out]; rfl), HX1.out⟩
set_option maxRecDepth 100000 in
set_option maxHeartbeats 4000000 in
theorem index_terms {S : Nat → Prop} (g : Nat) (pb : Value) (eg : ∀ args w, (callFunc g args).run Tryz.prog w = .ok (.enter g args) w) (pr : RTerm → Bool) (ls : List (RTerm)) (v : Value) (w : World) (h : Terms S w v ls) (hS : ∀ k, S k → k < w.heap.size)
    (hI : ∀ (t : RTerm) (vm vo : Value) (W : World), t ∈ ls → Ext w W → U32s S W vm t.c.mag → Pows S W vo t.m → Calls Tryz.prog g #[.agg #[.bool t.c.neg, vm, vo], pb] W fun e W' => e = .returned (.bool (pr t)) ∧ Ext W W') :
    Calls Tryz.prog 148 #[v, .func (.func g) #[] #[pb]] w (IdxPost (ls.any pr) w) := by
  have HP := hid h
  have HI := hid hI
  have hll := h.len_le
  obtain ⟨a, c, rfl⟩ := h.form
  obtain ⟨n, hn⟩ : ∃ n, n = ls.length := ⟨_, rfl⟩
  rw [← hn] at HP hll ⊢
  have HN := hid hn
  clear h hI hn
  go_enter Tryz.func148, Tryz.ntmps148
  go_wp2
  go_loopw [8] (fun i wr => ∃ k : Nat, k ≤ n ∧ i = .int .i64 (k : Nat) ∧ Ext w wr ∧ Hid ((ls.take k).any pr = false)) (fun i _ => n - (intOf i).toNat)
  case atStart => exact ⟨0, Nat.zero_le _, rfl, Ext.refl _, rfl⟩
  case round =>
    obtain ⟨k, hk, rfl, hx, HF⟩ := hrel
    have HX := hid hx
    by_cases hlt : k < n
    · obtain ⟨t, hp⟩ := some_of_lt (l := ls) (j := k) (by rw [← HN.out]; exact hlt)
      obtain ⟨b, o, vm, vo, rfl, -, h2, h3, -, h5, h6, h7, h8, h9⟩ := (HP.out.ext hx hS).cellAt hp
      have CP := hid (HI.out t vm vo wr (List.mem_of_getElem? hp) hx h8 h9)
      have HMP := hid (List.mem_of_getElem? hp)
      have HTK : Hid (ls.take (k + 1) = ls.take k ++ [t]) := hid (by rw [List.take_add_one, hp]; rfl)
      obtain ⟨am, cm, rfl⟩ := h8.form
      obtain ⟨ao, co, rfl⟩ := h9.form
      clear h8 h9
      obtain ⟨tt, ht⟩ : ∃ z, z = pr t := ⟨_, rfl⟩
      rw [← ht] at CP
      have HT := hid ht
      clear hp ht hx
      go_wp2_with fail
      with_reducible refine CP.out.mono ?_
      rintro e w1 ⟨rfl, hx1⟩
      have HX1 := hid (HX.out.trans hx1)
      clear hx1
      cases tt with
      | true =>
        go_wp2
        all_goals
          go_ret
          refine ⟨_, rfl, ?_, HX1.out⟩
          rw [List.any_eq_true.2 ⟨t, HMP.out, HT.out.symm⟩]
          exact decide_eq_true (by omega)
      | false =>
        go_wp2
        go_roundw
        case rel =>
          refine ⟨k + 1, by omega, by go_num, HX1.out, ?_⟩
          show (ls.take (k + 1)).any pr = false
          rw [HTK.out, List.any_append, HF.out]
          simp [← HT.out]
        case measure => simp only [intOf]; omega
    · obtain rfl : k = n := by omega
      have HA : Hid (ls.any pr = false) := hid (by have h := HF.out; rwa [List.take_of_length_le (by rw [← HN.out]; exact Nat.le_refl _)] at h)
      go_wp2
      all_goals
        go_ret
        exact ⟨_, rfl, by rw [HA.out]; rfl, HX.out⟩
set_option maxRecDepth 100000 in
set_option maxHeartbeats 4000000 in
theorem contains_terms {S : Nat → Prop} (g : Nat) (pb : Value) (eg : ∀ args w, (callFunc g args).run Tryz.prog w = .ok (.enter g args) w) (pr : RTerm → Bool) (ls : List (RTerm)) (v : Value) (w : World) (h : Terms S w v ls) (hS : ∀ k, S k → k < w.heap.size)
    (hI : ∀ (t : RTerm) (vm vo : Value) (W : World), t ∈ ls → Ext w W → U32s S W vm t.c.mag → Pows S W vo t.m → Calls Tryz.prog g #[.agg #[.bool t.c.neg, vm, vo], pb] W fun e W' => e = .returned (.bool (pr t)) ∧ Ext W W') :
    Calls Tryz.prog 130 #[v, .func (.func g) #[] #[pb]] w fun e w' => e = .returned (.bool (ls.any pr)) ∧ Ext w w' := by
  have CI := hid (index_terms g pb eg pr ls v w h hS hI)
  obtain ⟨a, c, rfl⟩ := h.form
  obtain ⟨n, hn⟩ : ∃ n, n = ls.length := ⟨_, rfl⟩
  rw [← hn] at CI ⊢
  clear h hI hn
  go_enter Tryz.func130, Tryz.ntmps130
  go_wp2_with fail
  with_reducible refine CI.out.mono ?_
  rintro e w1 ⟨i, rfl, hi, hx1⟩
  have HX1 := hid hx1
  have HI := hid hi
  clear hx1 hi
  go_wp2
  all_goals
    go_ret
    exact ⟨by first | rfl | (rw [HI.out]; rfl), HX1.out⟩
set_option maxRecDepth 100000 in
set_option maxHeartbeats 4000000 in
theorem side_has {S : Nat → Prop} (vp : Value) (ts : List RTerm) (x : Int) (w : World) (h : Terms S w vp ts) (hS : ∀ k, S k → k < w.heap.size) :
    Calls Tryz.prog 107 #[vp, .int .i64 x] w fun e w' => e = .returned (.bool (hasV x ts)) ∧ Ext w w' := by
  have hmf : ∀ (fn : Fn) (first cap : Array Value) (w : World), (Instr.makeFunc fn first cap).run Tryz.prog w = .ok (.func fn first cap) w := fun _ _ _ _ => rfl
  obtain ⟨w0, hw0⟩ : ∃ Y, Y = w.alloc (.cells #[.int .i64 x] 3) := ⟨_, rfl⟩
  have hx0 : Ext w w0 := by rw [hw0]; exact Ext.alloc (Ext.refl _) _
  have HX0 := hid hx0
  have hcb : w0.cell? ⟨w.heap.size, 0, none⟩ = some (.int .i64 x) := by rw [hw0]; exact cell_new w _ _ rfl rfl
  have HCB := hid hcb
  have C := hid (contains_terms (S := S) 131 (.pointer (some ⟨w.heap.size, 0, none⟩)) (enters_of Tryz.func131 (by kernel_rfl) rfl) (fun t => hasM x t.m) ts vp w0 (h.ext hx0 hS) (lt_ext hS hx0) (fun t vm vo W _ hW hm ho => by
    obtain ⟨W1, hW1⟩ : ∃ Y, Y = W.alloc (.cells #[.bool t.c.neg, vm, vo] 49) := ⟨_, rfl⟩
    have hx1 : Ext W W1 := by rw [hW1]; exact Ext.alloc (Ext.refl _) _
    have HX1 := hid hx1
    have hSW := lt_ext hS ((HX0.out.trans hW).trans hx1)
    have c0 : W1.cell? ⟨W.heap.size, 2, none⟩ = some vo := by rw [hW1]; exact cell_new W _ _ rfl rfl
    have CB := HCB.out
    have D := hid (contains_pows (S := S) 133 (.pointer (some ⟨w.heap.size, 0, none⟩)) (enters_of Tryz.func133 (by kernel_rfl) rfl) (fun y => decide (y.1 = x)) t.m vo W1 (ho.ext hx1 (lt_ext hS (HX0.out.trans hW))) hSW (fun y Y _ hY => by
      obtain ⟨y1, y2⟩ := y
      have d0 := ((hW.trans hx1).trans hY).cell CB
      have d1 : (Y.alloc (.cells #[.int .i64 y1, .int .i64 y2] 51)).cell? ⟨Y.heap.size, 0, none⟩ = some (.int .i64 y1) := cell_new Y _ _ rfl rfl
      have d2 := cell_old (.cells #[.int .i64 y1, .int .i64 y2] 51) d0
      have q1 : (y1 == x) = decide (y1 = x) := by rw [Bool.eq_iff_iff]; simp
      have HXY := hid (Ext.alloc (Ext.refl Y) (.cells #[.int .i64 y1, .int .i64 y2] 51))
      clear hm ho hx1 hW hY
      go_enter Tryz.func133, Tryz.ntmps133
      go_wp2
      all_goals
        go_ret
        exact ⟨by first | rfl | simp, HXY.out⟩))
    obtain ⟨am, cm, rfl⟩ := hm.form
    obtain ⟨ao, co, rfl⟩ := ho.form
    have e : hasM x t.m = t.m.any (fun y => decide (y.1 = x)) := rfl
    rw [← e] at D
    rw [hW1] at D c0
    clear hm ho hx1 hW e hW1 CB
    go_enter Tryz.func131, Tryz.ntmps131
    go_wp2_with fail
    with_reducible refine D.out.mono ?_
    rintro e w1 ⟨rfl, hx1⟩
    have HX2 := hid ((Ext.alloc (Ext.refl W) _).trans hx1)
    clear hx1
    go_wp2
    all_goals
      go_ret
      exact ⟨rfl, HX2.out⟩))
  rw [hw0] at C
  have e : hasV x ts = ts.any (fun t => hasM x t.m) := rfl
  rw [e]
  obtain ⟨a, c, rfl⟩ := h.form
  obtain ⟨n, hn⟩ : ∃ n, n = ts.length := ⟨_, rfl⟩
  rw [← hn] at C ⊢
  clear h hn e hcb hx0 hw0
  go_enter Tryz.func107, Tryz.ntmps107
  go_wp2_with fail
  with_reducible refine C.out.mono ?_
  rintro e w1 ⟨rfl, hx1⟩
  have HX2 := hid ((Ext.alloc (Ext.refl w) _).trans hx1)
  clear hx1
  go_wp2
  all_goals
    go_ret
    exact ⟨rfl, HX2.out⟩
end Go.Proofs.YtbhdgdmelepnhaaGreat

namespace Go.Proofs.YtbhdgdmelepnhaaGreat
open Go.RowKit

section
variable {W W' : World} {bd : Nat} {vm vg vh vq vr : Value} {v d n : Int} {keep : Bool}
end

end Go.Proofs.YtbhdgdmelepnhaaGreat

namespace Go.Proofs.YtbhdgdmelepnhaaGreat
open Go.RowKit

section
variable {W : World} {bd : Nat} {vm vg vh vq vr vp vo : Value} {v d n : Int} {keep : Bool} {h p q : PZ} {A B T M L l : Nat}
end

end Go.Proofs.YtbhdgdmelepnhaaGreat

namespace Go.Proofs.YtbhdgdmelepnhaaGreat
open Go.RowKit

section
variable {o : Option Nat} {bd : Nat} {A B C W W' : World} {v : Value} {p : PZ} {s : MSt}
end

end Go.Proofs.YtbhdgdmelepnhaaGreat

namespace Go.Proofs.YtbhdgdmelepnhaaGreat

section
variable {g f : PZ} {v : Int}

/-! By a meter as without one -/
end
end Go.Proofs.YtbhdgdmelepnhaaGreat

namespace Go.Proofs.YtbhdgdmelepnhaaGreat

section
variable {a b c : PZ}
end

section
variable {p g f : PZ} {v : Int}
end
end Go.Proofs.YtbhdgdmelepnhaaGreat

namespace Go.Proofs.YtbhdgdmelepnhaaGreat

section
variable {g f h q r : PZ} {v d : Int} {o : Option Nat} {keep : Bool} {B M : Nat}
end

end Go.Proofs.YtbhdgdmelepnhaaGreat

namespace Go.Proofs.YtbhdgdmelepnhaaGreat
open Go.RowKit

end Go.Proofs.YtbhdgdmelepnhaaGreat

namespace Go.Proofs.YtbhdgdmelepnhaaGreat
open Go.RowKit

end Go.Proofs.YtbhdgdmelepnhaaGreat

namespace Go.Proofs.YtbhdgdmelepnhaaGreat
open Go.RowKit

section
variable {W : World} {o : Option Nat} {s : MSt} {vf vg : Value} {v : Int} {f g : PZ} {A B T M : Nat}
end

section
variable {W : World} {vm vf vg : Value} {v : Int} {fs gs : List RTerm}
end
end Go.Proofs.YtbhdgdmelepnhaaGreat

namespace Go.Proofs.YtbhdgdmelepnhaaGreat
open Go.RowKit

end Go.Proofs.YtbhdgdmelepnhaaGreat

namespace Go.Proofs.YtbhdgdmelepnhaaGreat
open Go.RowKit

section
variable {W : World} {vf vg : Value} {v : Int} {f g : PZ} {A B T M : Nat}
end

end Go.Proofs.YtbhdgdmelepnhaaGreat

namespace Go.Proofs.YtbhdgdmelepnhaaGreat
open Go.RowKit

section
variable {W Y Y' : World} {S : Nat → Prop} {o : Option Nat} {u v : Value} {p q : PZ} {k l n m : Nat}
end

section
variable {o : Option Nat} {keep : Bool} {g h q r : PZ} {v d c1 c2 c3 : Int} {s s1 s2 s3 : MSt} {x : PZ × PZ}
end

end Go.Proofs.YtbhdgdmelepnhaaGreat

namespace Go.Proofs.YtbhdgdmelepnhaaGreat
open Go.RowKit

end Go.Proofs.YtbhdgdmelepnhaaGreat

namespace Go.Proofs.YtbhdgdmelepnhaaGreat
open Go.RowKit

end Go.Proofs.YtbhdgdmelepnhaaGreat

namespace Go.Proofs.YtbhdgdmelepnhaaGreat
open Go.RowKit

end Go.Proofs.YtbhdgdmelepnhaaGreat

namespace Go.Proofs.YtbhdgdmelepnhaaGreat
open Go.RowKit

section
variable {F G : PZ} {x : Int}
end
end Go.Proofs.YtbhdgdmelepnhaaGreat

namespace Go.Proofs.YtbhdgdmelepnhaaGreat
open Go.RowKit Go.Deep Go.ChangeShapes Go.WideShapes Go.ChangeAt Go.Joins

section
variable {H : Type} {enc : TypeId × Value → H} {P : Program} {w : World} {base : Nat} {spare : Nat → Bool} {held : Bool}
end
section
variable {H : Type} {enc : TypeId × Value → H} {W : World} {base b0 : Nat} {sp : Nat → Bool} {held : Bool}
set_option maxRecDepth 100000 in
theorem int_arg12 {fuel : Nat} {v : Value} {x : DataW H × List MemPlace} (hv : Value.okWide Tryz.prog W .any base 3 v) (h : DataW.trod enc Tryz.prog W b0 sp held fuel 3 v.cells.toList = some x) : ∃ n, v = .int .i64 n ∧ inI64 n := by
  obtain ⟨n, rfl⟩ := okWide_int Tryz.underlying3 hv
  obtain ⟨m, e, -, hw⟩ := DataW.trod_int Tryz.underlying3 h
  have e' : [Value.int .i64 n] = [.int .i64 m] := e
  obtain rfl : n = m := by simpa using e'
  exact ⟨n, rfl, bounds_i64 hw⟩
end
end Go.Proofs.YtbhdgdmelepnhaaGreat

namespace Go.Proofs.YtbhdgdmelepnhaaGreat
open Go.RowKit Go.Deep Go.ChangeShapes Go.WideShapes Go.ChangeAt Go.Joins

theorem Tryz.cells_layout : Tryz.prog.cellsOf 35 = 4 := by kernel_rfl
theorem Tryz.cells_coord : Tryz.prog.cellsOf 89 = 2 := by kernel_rfl
theorem Tryz.cells_string : Tryz.prog.cellsOf 9 = 1 := by kernel_rfl
theorem Tryz.cells_sstring : Tryz.prog.cellsOf 32 = 1 := by kernel_rfl
theorem Tryz.cells_scoord : Tryz.prog.cellsOf 33 = 1 := by kernel_rfl
section
variable {H : Type} {enc : TypeId × Value → H} {w : World} {base : Nat} {spare : Nat → Bool} {held : Bool}
theorem open_strs {fuel : Nat} {v : Value} {x : DataW H × List MemPlace} (h : DataW.trod enc Tryz.prog w base spare held fuel 32 [v] = some x) : ∃ l, Strs (· < w.heap.size) w v l := by
  obtain ⟨n, b, off, f', hs, hx⟩ := open_slice_at Tryz.underlying32 Tryz.cells_string (by omega) h
  obtain ⟨l, hl, hp⟩ := list_of_lt (p := fun j (z : ByteArray) => w.cell? ⟨b, off + j, none⟩ = some (.string z)) (n := n) (fun j hj => by
    obtain ⟨cs, y, h1, h2, h3⟩ := hx j hj
    obtain ⟨s, rfl, _, _⟩ := DataW.trod_string Tryz.underlying9 h3
    have h4 := h2 0 (by omega)
    simp only [Nat.mul_one, Nat.add_zero] at h4
    exact ⟨s, by rw [h4]; rfl⟩)
  subst hl
  exact ⟨l, b, off, hs, hp⟩
theorem open_coords {fuel : Nat} {v : Value} {x : DataW H × List MemPlace} (h : DataW.trod enc Tryz.prog w base spare held fuel 33 [v] = some x) : ∃ ps, Pows (· < w.heap.size) w v ps := by
  obtain ⟨n, b, off, f', hs, hx⟩ := open_slice_at Tryz.underlying33 Tryz.cells_coord (by omega) h
  obtain ⟨ps, hl, hp⟩ := list_of_lt (p := fun j (x : Int × Int) => ((-9223372036854775808 ≤ x.1 ∧ x.1 ≤ 9223372036854775807) ∧ -9223372036854775808 ≤ x.2 ∧ x.2 ≤ 9223372036854775807) ∧
    w.cell? ⟨b, off + j * 2, none⟩ = some (.int .i64 x.1) ∧ w.cell? ⟨b, off + j * 2 + 1, none⟩ = some (.int .i64 x.2)) (n := n) (fun j hj => by
    obtain ⟨cs, y, h1, h2, h3⟩ := hx j hj
    obtain ⟨y0, y1, m, _, _, g0, g1⟩ := trod_struct2 Tryz.underlying89 h3
    obtain ⟨n0, e0, _, w0⟩ := DataW.trod_int Tryz.underlying3 g0
    obtain ⟨n1, e1, _, w1⟩ := DataW.trod_int Tryz.underlying3 g1
    obtain ⟨c0, c1, rfl⟩ := list_two h1
    simp [Tryz.cells_i64] at e0 e1
    subst e0 e1
    exact ⟨(n0, n1), ⟨bounds_i64 w0, bounds_i64 w1⟩, h2 0 (by omega), h2 1 (by omega)⟩)
  subst hl
  exact ⟨ps, b, off, hs, hp⟩
end
section
variable {H : Type} {enc : TypeId × Value → H} {W : World} {base b0 : Nat} {sp : Nat → Bool} {held : Bool}
set_option maxRecDepth 100000 in
theorem layout_arg {v : Value} {d : DataW H} {p : List MemPlace} (hv : Value.okWide Tryz.prog W .any base 35 v) (h : DataW.Trod enc Tryz.prog W b0 sp held 35 v d p) :
    ∃ x : Lay, LayV (Old W) W v x ∧ inI64 x.par ∧ inI64 x.vrs := by
  obtain ⟨cs, rfl, hsz⟩ := okWide_struct Tryz.underlying35 hv
  obtain ⟨c0, c1, c2, c3, rfl⟩ := array4 (hsz.trans Tryz.cells_layout)
  obtain ⟨fuel, hf⟩ := h
  obtain ⟨y0, y1, y2, y3, n, _, _, h0, h1, h2, h3⟩ := trod_struct4 Tryz.underlying35 hf
  simp [Tryz.cells_i64, Tryz.cells_sstring, Tryz.cells_scoord, Value.cells] at h0 h1 h2 h3
  obtain ⟨n2, e2, _, w2⟩ := DataW.trod_int Tryz.underlying3 h2
  obtain ⟨n3, e3, _, w3⟩ := DataW.trod_int Tryz.underlying3 h3
  simp at e2 e3
  subst e2 e3
  obtain ⟨l, hl⟩ := open_strs h0
  obtain ⟨ps, hps⟩ := open_coords h1
  exact ⟨⟨l, ps, n2, n3⟩, ⟨c0, c1, rfl, hl, hps⟩, bounds_i64 w2, bounds_i64 w3⟩
end
end Go.Proofs.YtbhdgdmelepnhaaGreat
