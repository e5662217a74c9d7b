/- SideBack holds: a condition of three points, times a whole number that is not 0, is told as geometry, and its polynomial is that one made whole; the law answers true, and its arguments read as they did. No condition. -/
import Derived.Test.YtbfflodidkfphaaGreatSl12
set_option maxRecDepth 100000
set_option maxHeartbeats 16000000
namespace Go.Proofs.YtbfflodidkfphaaGreat
section
open Go.RowKit Go.Maps Go.WideMaps Go.WideShapes
theorem try_some {x : Lay} {p : PZ} {wd : ByteArray} {names : List ByteArray} : ∀ (rest row : List ByteArray), (∀ y ∈ rest, y ∈ names) → hitP x p wd (row ++ rest) = true → (tryD x p wd names rest.length row).isSome = true
 | [], row, _, h => by
  show (if hitP x p wd row then some row else none).isSome = true
  rw [List.append_nil] at h
  rw [if_pos h]
  rfl
 | y :: r, row, hm, h => by
  show (names.findSome? fun nm => tryD x p wd names r.length (row ++ [nm])).isSome = true
  rw [List.findSome?_isSome_iff]
  exact ⟨y, hm y (by simp), try_some r (row ++ [y]) (fun z hz => hm z (by simp [hz])) (by rw [List.append_assoc]; exact h)⟩
theorem told_word {x : Lay} {p : PZ} {wd : ByteArray} {m : Nat} {row : List ByteArray} (hw : (wd, m) ∈ wordsL) (hl : row.length = m) (hin : ∀ y ∈ row, y ∈ namesP x (ofP p)) (h2 : 2 ≤ (namesP x (ofP p)).length) (h6 : (namesP x (ofP p)).length ≤ 6) (hh : hitP x p wd row = true) : ((toldP x p).word.toList == []) = false := by
 have h1 : (toldL x p (namesP x (ofP p)) wordsL).isSome = true := by
  rw [told_find, List.findSome?_isSome_iff]
  refine ⟨(wd, m), hw, ?_⟩
  unfold hitG
  rw [← try_hit, Option.isSome_map, ← hl]
  exact try_some row [] hin hh
 obtain ⟨⟨wd', row'⟩, h3⟩ := Option.isSome_iff_exists.1 h1
 rw [told_rest (by omega) h3]
 rw [told_find] at h3
 obtain ⟨t, ht, h4⟩ := List.exists_of_findSome?_eq_some h3
 unfold hitG at h4
 obtain ⟨r, -, h5⟩ := Option.map_eq_some_iff.1 h4
 obtain ⟨rfl, -⟩ : t.1 = wd' ∧ r = row' := by simpa using h5
 obtain ⟨w1, m1⟩ := t
 exact words_ne ht
def pnK (k : Nat) : ByteArray := [nA, nB, nC].getD k ByteArray.empty
def okRow (wd : ByteArray) (row : List ByteArray) : Bool :=
 (condX lay3 wd row).2.isEmpty || (row.all (fun y => (namesP lay3 (ofP (wholeP (condX lay3 wd row).2))).any fun z => decide (z = y)) && decide (2 ≤ (namesP lay3 (ofP (wholeP (condX lay3 wd row).2))).length) && decide ((namesP lay3 (ofP (wholeP (condX lay3 wd row).2))).length ≤ 6))
theorem rows_ok : ((List.range 3).all fun a => (List.range 3).all fun b => (List.range 3).all fun c => (List.range 3).all fun d => wordsL.all fun t => okRow t.1 ([pnK a, pnK b, pnK c, pnK d].take t.2)) = true := by kernel_rfl
theorem back_word {a b c d m : Nat} {wd : ByteArray} {q : PZ} (ha : a < 3) (hb : b < 3) (hc : c < 3) (hd : d < 3) (hw : (wd, m) ∈ wordsL) (hq : condX lay3 wd ([pnK a, pnK b, pnK c, pnK d].take m) = (0, q)) (h0 : q ≠ []) : ((toldP lay3 (wholeP q)).word.toList == []) = false := by
 have h := rows_ok
 simp only [List.all_eq_true, List.mem_range] at h
 have h := h a ha b hb c hc d hd (wd, m) hw
 unfold okRow at h
 simp only [hq] at h
 have e : q.isEmpty = false := by cases q with
  | nil => exact absurd rfl h0
  | cons _ _ => rfl
 simp only [e, Bool.false_or, Bool.and_eq_true, List.all_eq_true, List.any_eq_true, decide_eq_true_eq] at h
 have hm : m ≤ 4 := by
  simp only [wordsL, List.mem_cons, List.not_mem_nil, or_false, Prod.mk.injEq] at hw
  omega
 exact told_word (row := [pnK a, pnK b, pnK c, pnK d].take m) hw (by rw [List.length_take]; exact Nat.min_eq_left hm) (fun y hy => by obtain ⟨z, hz, rfl⟩ := h.1.1 y hy; exact hz) h.1.2 h.2 (by rw [hit_same hq h0]; exact decide_eq_true rfl)
theorem askW_words {wd : ByteArray} {m : Nat} (h : askW wd = some m) : (wd, m) ∈ wordsL := by
 unfold askW at h
 unfold wordsL
 split at h
 ·next e => obtain rfl := Option.some.inj h; rw [e]; simp
 ·split at h
  ·next e => obtain rfl := Option.some.inj h; rw [e]; simp
  ·split at h
   ·next e => obtain rfl := Option.some.inj h; rw [e]; simp
   ·split at h
    ·next e => obtain rfl := Option.some.inj h; rw [e]; simp
    ·cases h
theorem Strs.take {S : Nat → Prop} {w : World} {xs : List ByteArray} {a : Option Addr} {n m cap : Nat} (h : Strs S w (.slice a n cap) xs) (hm : m ≤ n) : Strs S w (.slice a m cap) (xs.take m) := by
 obtain ⟨b, off, ⟨a', cap', h1, h2, h3, h4, h5⟩, hc⟩ := h
 obtain ⟨rfl, rfl, rfl⟩ : a = a' ∧ n = xs.length ∧ cap = cap' := by simpa using h1
 have hl : (xs.take m).length = m := by rw [List.length_take]; omega
 refine ⟨b, off, ⟨a, cap, by rw [hl], by omega, h3, fun h0 => h4 (by omega), fun h0 => h5 (by omega)⟩, fun j x hj => ?_⟩
 have hjl := lt_of_some hj
 rw [List.getElem?_take, if_pos (by omega)] at hj
 exact hc j x hj
end
section
open Go.RowKit Go.Maps Go.WideMaps Go.WideShapes
theorem ask_run1 (W : World) (b : Nat) (hb : b = W.heap.size) : ∃ m1 m2 m3 m4,
  (Instr.mapUpdate 74 (.map (some b)) (.string { data := #[117, 110, 108, 105, 107, 101] }) (.int .i64 2)).run Tryz.prog (W.alloc (.map #[] 0)) = .ok () m1 ∧
  (Instr.mapUpdate 74 (.map (some b)) (.string { data := #[97, 112, 97, 114, 116] }) (.int .i64 3)).run Tryz.prog m1 = .ok () m2 ∧
  (Instr.mapUpdate 74 (.map (some b)) (.string { data := #[99, 114, 111, 115, 115] }) (.int .i64 4)).run Tryz.prog m2 = .ok () m3 ∧
  (Instr.mapUpdate 74 (.map (some b)) (.string { data := #[100, 111, 116] }) (.int .i64 4)).run Tryz.prog m3 = .ok () m4 ∧
  (∀ wd : ByteArray, wd.size ≤ maxLen → (Instr.lookup 74 (.map (some b)) (.string wd) false).run Tryz.prog m4 = .ok (.int .i64 (askI wd)) m4) ∧ Ext W m4 := by
 subst hb
 have K : Keyed Tryz.prog 9 := string_keyed Tryz.underlying9
 have h0 := World.ownsMap_made (H := Unit) W Tryz.prog 9 (plainElem Tryz.prog 3)
 have sz : ∀ wd : ByteArray, wd.size ≤ maxLen → keyOf Tryz.prog 9 (.string wd) = some (keyS wd) := fun wd h => keyOf_string_mk Tryz.underlying9 h
 have e2 : plainElem (H := Unit) Tryz.prog 3 (.int .i64 2) = some (.lit (.int .i64 2), []) := plainElem_int Tryz.underlying3 (by decide)
 have e3 : plainElem (H := Unit) Tryz.prog 3 (.int .i64 3) = some (.lit (.int .i64 3), []) := plainElem_int Tryz.underlying3 (by decide)
 have e4 : plainElem (H := Unit) Tryz.prog 3 (.int .i64 4) = some (.lit (.int .i64 4), []) := plainElem_int Tryz.underlying3 (by decide)
 obtain ⟨m1, r1, o1, g1⟩ := h0.update K Tryz.underlying74 (by decide) (sz wUnlike (by decide)) e2
 obtain ⟨m2, r2, o2, g2⟩ := o1.update K Tryz.underlying74 (by decide) (sz wApart (by decide)) e3
 obtain ⟨m3, r3, o3, g3⟩ := o2.update K Tryz.underlying74 (by decide) (sz wCross (by decide)) e4
 obtain ⟨m4, r4, o4, g4⟩ := o3.update K Tryz.underlying74 (by decide) (sz wDot (by decide)) e4
 have hz : (zeroValue 3).run Tryz.prog m4 = .ok (.int .i64 0) m4 := Tryz.zeroValue3 _
 refine ⟨m1, m2, m3, m4, r1, r2, r3, r4, fun wd hwd => ?_, ?_⟩
 ·obtain ⟨es, clock, hb, F, -, hD⟩ := o4
  have hat := d4_at wd
  rw [show d4 = _ from hD] at hat
  unfold askI
  rcases Maps.fit_look false K Tryz.underlying74 hz hb F (sz wd hwd) with ⟨hrun, -, h⟩ | ⟨e0, y, -, -, hrun, hR, h, -⟩
  ·cases ha : askW wd with
   | none => exact hrun
   | some n =>
    have k := (h .nil).symm.trans (hat .nil)
    rw [ha] at k
    cases k
  ·cases ha : askW wd with
   | none =>
    have k := fun zd => (h zd).symm.trans (hat zd)
    simp only [ha] at k
    have k1 := (k .nil).symm.trans (k (.lit (.bool true)))
    cases k1
   | some n =>
    have k := (h .nil).symm.trans (hat .nil)
    simp only [ha] at k
    obtain ⟨c, hc, hy, -⟩ := plainElem_int_inv Tryz.underlying3 hR
    rw [hy] at k
    have : c = (n : Int) := by simpa using k
    rw [hrun, hc, this]
    rfl
 ·have k : Ext W (W.alloc (.map #[] 0)) := Ext.alloc (Ext.refl W) _
  have q : ∀ {A B : World}, Ext W A → A.grownBy B (some W.heap.size) → Ext W B := fun h g => h.grown g h.size (fun k e => by cases e; exact Nat.le_refl _)
  exact q (q (q (q k g1) g2) g3) g4
def pk (z : Int) : Nat := (z % 18446744073709551616 % 3).toNat
theorem pk_lt (z : Int) : pk z < 3 := by unfold pk; omega
theorem pk_eq (z : Int) : wrap64 ((IntKind.u64.wrap z).tmod 3) = ((pk z : Nat) : Int) := by
 rw [IntKind.wrap_u64, Int.tmod_eq_emod_of_nonneg (by omega)]
 unfold wrap64 pk
 omega
theorem lay3_ok : ∀ c ∈ lay3.ats, Ok2 c := by
 intro c hc
 simp only [lay3, List.mem_cons, List.not_mem_nil, or_false] at hc
 rcases hc with rfl | rfl | rfl <;> (unfold Ok2; decide)
theorem pn_at {k : Nat} (h : k < 3) : lay3.pts[k]? = some (pnK k) := by
 rcases (show k = 0 ∨ k = 1 ∨ k = 2 by omega) with rfl | rfl | rfl <;> rfl
theorem law28_back {W : World} {wd : ByteArray} {A B C D T : Int} (hw : wd.size ≤ maxLen) :
  Calls Tryz.prog 4 #[.string wd, .int .i64 A, .int .i64 B, .int .i64 C, .int .i64 D, .int .i64 T] W fun e w' => e = .returned (.bool true) ∧ Ext W w' := by
 have HWD := hid hw
 obtain ⟨t0, ht0⟩ : ∃ b, b = (T == 0) := ⟨_, rfl⟩
 obtain ⟨t1, ht1⟩ : ∃ b, b = decide (1099511627776 < T) := ⟨_, rfl⟩
 obtain ⟨t2, ht2⟩ : ∃ b, b = decide (T < -1099511627776) := ⟨_, rfl⟩
 have q0 := ht0.symm
 have q1 := ht1.symm
 have q2 := ht2.symm
 clear ht0 ht1 ht2 hw
 have hix : ∀ w : World, (Instr.index 72 (.agg #[.int .i64 A, .int .i64 B, .int .i64 C, .int .i64 D]) (.int .i64 0)).run Tryz.prog w = .ok (.int .i64 A) w ∧ (Instr.index 72 (.agg #[.int .i64 A, .int .i64 B, .int .i64 C, .int .i64 D]) (.int .i64 1)).run Tryz.prog w = .ok (.int .i64 B) w ∧ (Instr.index 72 (.agg #[.int .i64 A, .int .i64 B, .int .i64 C, .int .i64 D]) (.int .i64 2)).run Tryz.prog w = .ok (.int .i64 C) w ∧ (Instr.index 72 (.agg #[.int .i64 A, .int .i64 B, .int .i64 C, .int .i64 D]) (.int .i64 3)).run Tryz.prog w = .ok (.int .i64 D) w := fun w => ⟨by kernel_rfl, by kernel_rfl, by kernel_rfl, by kernel_rfl⟩
 go_enter Tryz.func4, Tryz.ntmps4
 cases t0 with
 | true =>
  go_wp2_with fail
  with_reducible refine (law28_known _).mono ?_
  rintro e wz ⟨rfl, hxz⟩
  have HXZ := hid ((Ext.refl W).trans hxz)
  clear hxz
  go_wp2
  all_goals
   go_ret
   exact ⟨rfl, HXZ.out⟩
 | false =>
  cases t1 with
  | true =>
   go_wp2_with fail
   with_reducible refine (law28_known _).mono ?_
   rintro e wz ⟨rfl, hxz⟩
   have HXZ := hid ((Ext.refl W).trans hxz)
   clear hxz
   go_wp2
   all_goals
    go_ret
    exact ⟨rfl, HXZ.out⟩
  | false =>
   cases t2 with
   | true =>
    go_wp2_with fail
    with_reducible refine (law28_known _).mono ?_
    rintro e wz ⟨rfl, hxz⟩
    have HXZ := hid ((Ext.refl W).trans hxz)
    clear hxz
    go_wp2
    all_goals
     go_ret
     exact ⟨rfl, HXZ.out⟩
   | false =>
    have hT0 : T ≠ 0 := fun e => by rw [e] at q0; cases q0
    have hT1 : T ≤ 1099511627776 := by have := of_decide_eq_false q1; omega
    have hT2 : -1099511627776 ≤ T := by have := of_decide_eq_false q2; omega
    have HT0 := hid hT0
    have HT12 := hid (And.intro hT1 hT2)
    clear hT0 hT1 hT2
    go_wp2_with fail
    with_reducible refine (law28_three _).mono ?_
    rintro e w1 ⟨v1, rfl, ⟨vq, va, rfl, hq, ha⟩, hx1⟩
    have HX1 := hid hx1
    have HQ1 := hid (hq.to (S' := Old w1) (Kept.refl _ _) New.lt)
    have HLY := hid (show LayV (Old w1) w1 (.agg #[vq, va, .int .i64 lay3.par, .int .i64 lay3.vrs]) lay3 from ⟨vq, va, rfl, hq.to (Kept.refl _ _) New.lt, ha.to (Kept.refl _ _) New.lt⟩)
    obtain ⟨ap, cp, e1⟩ : ∃ a c, vq = .slice a 3 c := hq.form
    obtain ⟨aa, ca, e2⟩ : ∃ a c, va = .slice a 3 c := ha.form
    subst e1 e2
    obtain ⟨b1, hb1⟩ : ∃ b, b = w1.heap.size := ⟨_, rfl⟩
    obtain ⟨w2, hw2⟩ : ∃ Y, Y = w1.alloc (.cells #[.slice ap 3 cp, .slice aa 3 ca, .int .i64 lay3.par, .int .i64 lay3.vrs] 35) := ⟨_, rfl⟩
    have HX12 : Hid (Ext w1 w2) := hid (by rw [hw2]; exact Ext.alloc (Ext.refl _) _)
    have HL := hid (fun (Y : World) (hY : Ext w2 Y) => HLY.out.on (HX12.out.trans hY))
    have HSA : Hid (∀ Y, Ext w2 Y → Y.cell? ⟨b1, 0, none⟩ = some (.slice ap 3 cp) ∧ Y.cell? ⟨b1, 1, none⟩ = some (.slice aa 3 ca) ∧ Y.cell? ⟨b1, 2, none⟩ = some (.int .i64 lay3.par) ∧ Y.cell? ⟨b1, 3, none⟩ = some (.int .i64 lay3.vrs)) := hid (fun Y h => by
     rw [hw2] at h
     have k0 : ∀ (i : Nat) (u : Value), #[Value.slice ap 3 cp, .slice aa 3 ca, .int .i64 lay3.par, .int .i64 lay3.vrs][i]? = some u → Y.cell? ⟨b1, i, none⟩ = some u := fun i u hu => h.cell (cell_new w1 _ _ hb1 hu)
     exact ⟨k0 0 _ rfl, k0 1 _ rfl, k0 2 _ rfl, k0 3 _ rfl⟩)
    have HW2 := hid hw2
    have HB1 := hid hb1
    have HX2 := hid (HX1.out.trans HX12.out)
    obtain ⟨R, hR⟩ : ∃ R, R = [pnK (pk A), pnK (pk B), pnK (pk C), pnK (pk D)] := ⟨_, rfl⟩
    have HR := hid hR
    clear hq ha hx1 hw2 hb1 hR q0 q1 q2
    go_upto_region 4 with fail
    rw [← HB1.out]
    rw [← HW2.out]
    go_wp2
    go_loopw [14, 41] (fun o i wr => ∃ k : Nat, k ≤ 4 ∧ i = .int .i64 (k : Nat) ∧ Hid (wr.ownsRow w2.heap.size 9 1 o k ((R.take k).map strV)) ∧ Hid (Ext w2 wr)) (fun _ i _ => 4 - (intOf i).toNat)
    case atStart => exact ⟨0, by omega, rfl, hid (World.ownsRow_nil _ _ _ _), hid (Ext.refl _)⟩
    case round =>
     obtain ⟨k, hk, rfl, HO, HX⟩ := hrel
     obtain ⟨d0, d1, d2, d3⟩ := HSA.out wr HX.out
     by_cases hlt : k < 4
     ·rcases (show k = 0 ∨ k = 1 ∨ k = 2 ∨ k = 3 by omega) with rfl | rfl | rfl | rfl
      ·obtain ⟨hi, -⟩ := hix wr
       obtain ⟨r, hr⟩ : ∃ r, r = pk A := ⟨_, rfl⟩
       have hrl : r < 3 := by rw [hr]; exact pk_lt _
       have hz := pk_eq A
       rw [← hr] at hz
       obtain ⟨bp, op, rfl, -, hp1, hp2, -, hp3⟩ := (HQ1.out.to (Kept.ext (HX12.out.trans HX.out) (fun _ h => h)) (old_lt (HX12.out.trans HX.out))).cellAt (pn_at hrl)
       have HBS : Hid (w2.heap.size ≤ wr.heap.size) := hid HX.out.size
       have HTK : Hid (R.take (0 + 1) = R.take 0 ++ [pnK r]) := hid (by rw [HR.out, hr]; rfl)
       obtain ⟨nm, hnm⟩ : ∃ s, s = pnK r := ⟨_, rfl⟩
       rw [← hnm] at hp3 HTK
       clear hr hnm
       go_wp2_with (at_builtin; refine wpList_append_new _ rfl (.tmp 44) (.tmp 53) 32 rfl w2.heap.size 9 (.string ByteArray.empty) 1 16 Tryz.underlying32 Tryz.infoStr rfl (by decide) _ _ _ rfl HO.out #[.string nm] rfl (str_cell _) rfl (by decide) (by decide) HBS.out ?_; intro v5 w5 hown hg _; have HOW := hid hown; have HG := hid hg; clear hown hg)
       go_roundw
       case rel =>
        refine ⟨0 + 1, by omega, by go_num, hid ?_, hid (own_grown0 HX.out HO.out HG.out)⟩
        rw [HTK.out, List.map_append]
        exact HOW.out
       case measure => simp only [intOf]; omega
      ·obtain ⟨-, hi, -⟩ := hix wr
       obtain ⟨r, hr⟩ : ∃ r, r = pk B := ⟨_, rfl⟩
       have hrl : r < 3 := by rw [hr]; exact pk_lt _
       have hz := pk_eq B
       rw [← hr] at hz
       obtain ⟨bp, op, rfl, -, hp1, hp2, -, hp3⟩ := (HQ1.out.to (Kept.ext (HX12.out.trans HX.out) (fun _ h => h)) (old_lt (HX12.out.trans HX.out))).cellAt (pn_at hrl)
       have HBS : Hid (w2.heap.size ≤ wr.heap.size) := hid HX.out.size
       have HTK : Hid (R.take (1 + 1) = R.take 1 ++ [pnK r]) := hid (by rw [HR.out, hr]; rfl)
       obtain ⟨nm, hnm⟩ : ∃ s, s = pnK r := ⟨_, rfl⟩
       rw [← hnm] at hp3 HTK
       clear hr hnm
       go_wp2_with (at_builtin; refine wpList_append_new _ rfl (.tmp 44) (.tmp 53) 32 rfl w2.heap.size 9 (.string ByteArray.empty) 1 16 Tryz.underlying32 Tryz.infoStr rfl (by decide) _ _ _ rfl HO.out #[.string nm] rfl (str_cell _) rfl (by decide) (by decide) HBS.out ?_; intro v5 w5 hown hg _; have HOW := hid hown; have HG := hid hg; clear hown hg)
       go_roundw
       case rel =>
        refine ⟨1 + 1, by omega, by go_num, hid ?_, hid (own_grown0 HX.out HO.out HG.out)⟩
        rw [HTK.out, List.map_append]
        exact HOW.out
       case measure => simp only [intOf]; omega
      ·obtain ⟨-, -, hi, -⟩ := hix wr
       obtain ⟨r, hr⟩ : ∃ r, r = pk C := ⟨_, rfl⟩
       have hrl : r < 3 := by rw [hr]; exact pk_lt _
       have hz := pk_eq C
       rw [← hr] at hz
       obtain ⟨bp, op, rfl, -, hp1, hp2, -, hp3⟩ := (HQ1.out.to (Kept.ext (HX12.out.trans HX.out) (fun _ h => h)) (old_lt (HX12.out.trans HX.out))).cellAt (pn_at hrl)
       have HBS : Hid (w2.heap.size ≤ wr.heap.size) := hid HX.out.size
       have HTK : Hid (R.take (2 + 1) = R.take 2 ++ [pnK r]) := hid (by rw [HR.out, hr]; rfl)
       obtain ⟨nm, hnm⟩ : ∃ s, s = pnK r := ⟨_, rfl⟩
       rw [← hnm] at hp3 HTK
       clear hr hnm
       go_wp2_with (at_builtin; refine wpList_append_new _ rfl (.tmp 44) (.tmp 53) 32 rfl w2.heap.size 9 (.string ByteArray.empty) 1 16 Tryz.underlying32 Tryz.infoStr rfl (by decide) _ _ _ rfl HO.out #[.string nm] rfl (str_cell _) rfl (by decide) (by decide) HBS.out ?_; intro v5 w5 hown hg _; have HOW := hid hown; have HG := hid hg; clear hown hg)
       go_roundw
       case rel =>
        refine ⟨2 + 1, by omega, by go_num, hid ?_, hid (own_grown0 HX.out HO.out HG.out)⟩
        rw [HTK.out, List.map_append]
        exact HOW.out
       case measure => simp only [intOf]; omega
      ·obtain ⟨-, -, -, hi⟩ := hix wr
       obtain ⟨r, hr⟩ : ∃ r, r = pk D := ⟨_, rfl⟩
       have hrl : r < 3 := by rw [hr]; exact pk_lt _
       have hz := pk_eq D
       rw [← hr] at hz
       obtain ⟨bp, op, rfl, -, hp1, hp2, -, hp3⟩ := (HQ1.out.to (Kept.ext (HX12.out.trans HX.out) (fun _ h => h)) (old_lt (HX12.out.trans HX.out))).cellAt (pn_at hrl)
       have HBS : Hid (w2.heap.size ≤ wr.heap.size) := hid HX.out.size
       have HTK : Hid (R.take (3 + 1) = R.take 3 ++ [pnK r]) := hid (by rw [HR.out, hr]; rfl)
       obtain ⟨nm, hnm⟩ : ∃ s, s = pnK r := ⟨_, rfl⟩
       rw [← hnm] at hp3 HTK
       clear hr hnm
       go_wp2_with (at_builtin; refine wpList_append_new _ rfl (.tmp 44) (.tmp 53) 32 rfl w2.heap.size 9 (.string ByteArray.empty) 1 16 Tryz.underlying32 Tryz.infoStr rfl (by decide) _ _ _ rfl HO.out #[.string nm] rfl (str_cell _) rfl (by decide) (by decide) HBS.out ?_; intro v5 w5 hown hg _; have HOW := hid hown; have HG := hid hg; clear hown hg)
       go_roundw
       case rel =>
        refine ⟨3 + 1, by omega, by go_num, hid ?_, hid (own_grown0 HX.out HO.out HG.out)⟩
        rw [HTK.out, List.map_append]
        exact HOW.out
       case measure => simp only [intOf]; omega
     ·obtain rfl : k = 4 := by omega
      have HOR := HO.out
      rw [show R.take 4 = R from by rw [HR.out]; rfl] at HOR
      have hrs := own_strs (xs := R) (by rw [show R.length = 4 from by rw [HR.out]; rfl]; exact HOR)
      obtain ⟨w3, hw3⟩ : ∃ Y, Y = wr := ⟨_, rfl⟩
      rw [← hw3] at HX HO hrs d0 d1 d2 d3 ⊢
      clear hw3
      have hmm := @run_makeMap Tryz.prog
      have HRS := hid (fun (Y : World) (hY : Ext w3 Y) => hrs.to (S' := Old Y) (Kept.ext hY (fun _ h => h.2)) (fun k h => Nat.lt_of_lt_of_le h.2 hY.size))
      have HX3 := hid HX.out
      obtain ⟨a3, c3, e3⟩ : ∃ a c, _ = Value.slice a 4 c := by
       obtain ⟨a, c, e⟩ := hrs.form
       exact ⟨a, c, e.trans (by rw [show R.length = 4 from by rw [HR.out]; rfl])⟩
      subst e3
      obtain ⟨br, orr, e4, -, hc4, hcm, -, -⟩ := (HRS.out w3 (Ext.refl _)).cellAt (k := 0) (x := pnK (pk A)) (by rw [HR.out]; rfl)
      subst e4
      obtain ⟨n, hn, hn4, hnw⟩ : ∃ n : Nat, askI wd = (n : Int) ∧ n ≤ 4 ∧ (∀ m, askW wd = some m → m = n) := by
       unfold askI
       cases h : askW wd with
       | none => exact ⟨0, rfl, by omega, fun m e => by cases e⟩
       | some m => exact ⟨m, rfl, by have := askW_words h; simp only [wordsL, List.mem_cons, List.not_mem_nil, or_false, Prod.mk.injEq] at this; omega, fun k e => (Option.some.inj e).symm⟩
      obtain ⟨m1, m2, m3, m4, r1, r2, r3, r4, hlk, hxm⟩ := ask_run1 w3 _ rfl
      have hlk := hlk wd HWD.out
      rw [hn] at hlk
      have HXM := hid (HX3.out.trans hxm)
      have HSM := hid (fun (Y : World) (hY : Ext m4 Y) => HSA.out Y (HXM.out.trans hY))
      have HNW := hid hnw
      have HN4 := hid hn4
      have hq0 : (0 : Int) ≤ (n : Int) := by omega
      have hq4 : (n : Int) ≤ 4 := by omega
      have hqc : (4 : Int) ≤ (c3 : Int) := by omega
      have hqn : (n : Int) ≤ (c3 : Int) := by omega
      have CQ := hid (fun (Y : World) (hY : Ext m4 Y) => ref_condition (x := lay3) (wd := wd) (names := R.take n) (HL.out Y (HXM.out.trans hY)) lay3_ok (vn := .slice (some ⟨br, orr, none⟩) n c3) ((HRS.out Y (hxm.trans hY)).take HN4.out) (by rw [List.length_take]; have := HN4.out; omega))
      obtain ⟨er, q, hcq⟩ : ∃ er q, condX lay3 wd (R.take n) = (er, q) := ⟨_, _, rfl⟩
      rw [hcq] at CQ
      have HCQ := hid hcq
      clear hrs hxm hn hn4 hnw hcq hc4 hcm HO HOR d0 d1 d2 d3 hk
      go_upto_region 11 with fail
      have HXD := hid (show Ext m4 m4.drew from (Ext.refl m4).drew)
      go_cut [18, 19] (fun up ue wx => ∃ (a4 : Option Addr) (c4 : Nat), up = .slice a4 (ofP q).length c4 ∧ ue = .int .i64 er ∧ Hid (Terms (Old wx) wx (.slice a4 (ofP q).length c4) (ofP q)) ∧ Hid (Ext m4 wx))
      case first =>
       go_region_held3 (fun Y => Y.cell? ⟨b1, 0, none⟩ = some (.slice ap 3 cp) ∧ Y.cell? ⟨b1, 1, none⟩ = some (.slice aa 3 ca) ∧ Y.cell? ⟨b1, 2, none⟩ = some (.int .i64 lay3.par) ∧ Y.cell? ⟨b1, 3, none⟩ = some (.int .i64 lay3.vrs)) (first | exact HSM.out _ HXD.out | exact HSM.out _ HX4.out)
        (first
         | (go_at_call 17; (with_reducible refine (CQ.out _ HXD.out).mono ?_); rintro e w4 ⟨v4, rfl, ht4, hx4⟩; have HX4 := hid (HXD.out.trans hx4); have HT4 := hid ht4; obtain ⟨a4, c4, rfl⟩ := ht4.form; clear ht4 hx4)
         | fail)
       all_goals
        go_wp2_with fail
        go_meet
        exact ⟨_, _, rfl, rfl, HT4, HX4⟩
      case rest =>
       obtain ⟨a4, c4, rfl, rfl, HT4, HX4⟩ := hcut
       obtain ⟨w4, hw4⟩ : ∃ Y, Y = wc := ⟨_, rfl⟩
       rw [← hw4] at HT4 HX4 ⊢
       clear hw4 hq0 hq4 hqc hqn r1 r2 r3 r4 hlk hmm
       have HX4W := hid (HX2.out.trans (HXM.out.trans HX4.out))
       obtain ⟨nq, hnq⟩ : ∃ n, n = (ofP q).length := ⟨_, rfl⟩
       rw [← hnq] at HT4 ⊢
       have HNQ := hid hnq
       clear hnq
       by_cases he : er = 0
       ·subst he
        by_cases h0 : q = []
        ·have hn0 : nq = 0 := by rw [HNQ.out, h0]; rfl
         subst hn0
         clear h0
         go_wp2_with fail
         with_reducible refine (law28_known _).mono ?_
         rintro e wz ⟨rfl, hxz⟩
         have HXZ := hid (HX4W.out.trans hxz)
         clear hxz
         go_wp2
         all_goals
          go_ret
          exact ⟨rfl, HXZ.out⟩
        have hn0 : 0 < nq := by rw [HNQ.out, ofP_len]; exact List.length_pos_iff.2 h0
        obtain ⟨m, hm⟩ : ∃ m, askW wd = some m := by
         cases h : askW wd with
         | some m => exact ⟨m, rfl⟩
         | none => exact absurd (show (5 : Int) = 0 from by have h2 := HCQ.out; unfold condX at h2; rw [h] at h2; exact congrArg Prod.fst h2) (by decide)
        have hmn := HNW.out m hm
        have HFQ := hid (cond_fit lay3_ok HCQ.out)
        obtain ⟨s, hs⟩ : ∃ s, s = toldP lay3 (wholeP q) := ⟨_, rfl⟩
        have HW0 : Hid ((s.word.toList == []) = false) := hid (by rw [hs]; exact back_word (m := m) (pk_lt A) (pk_lt B) (pk_lt C) (pk_lt D) (askW_words hm) (by rw [hmn, ← HR.out]; exact HCQ.out) h0)
        have HSE := hid hs
        have HSP : Hid (s.poly = ofP (wholeP q)) := hid (by rw [hs]; exact told_poly _ _)
        have HQ0 := hid h0
        have fC : Fit 16 8 (scaleP T q) := by
         have h := (fit_one (c := T) (m := []) (k := 2) rfl (lenI_lt (by show T.natAbs < 4294967296 ^ 2; have := HT12.out; omega))).times HFQ.out (scale_times HT0.out HFQ.out.can) (by decide)
         exact h.mono (by decide) (by decide)
        have hC0 : scaleP T q ≠ [] := fun e => h0 (by
         unfold scaleP at e
         exact List.map_eq_nil_iff.1 e)
        have HC := hid (And.intro fC hC0)
        have HSW : Hid (∀ Y, Ext w4 Y → Y.cell? ⟨b1, 0, none⟩ = some (.slice ap 3 cp) ∧ Y.cell? ⟨b1, 1, none⟩ = some (.slice aa 3 ca) ∧ Y.cell? ⟨b1, 2, none⟩ = some (.int .i64 lay3.par) ∧ Y.cell? ⟨b1, 3, none⟩ = some (.int .i64 lay3.vrs)) := hid (fun Y h => HSM.out Y (HX4.out.trans h))
        have HLW := hid (fun (Y : World) (hY : Ext w4 Y) => HL.out Y (HXM.out.trans (HX4.out.trans hY)))
        have HPQ := hid (fun (Y : World) (hY : Ext w4 Y) => show PV Y (.slice a4 nq c4) q from Terms.on HT4.out hY)
        have C1 := hid (fun (Y : World) => rz_smallZ Y (n := T) (by have := HT12.out; omega))
        have C2 := hid (fun (Y : World) (hY : Ext w4 Y) => rz_ofP (HPQ.out Y hY) HFQ.out (by decide) (by decide))
        have C3 := hid (fun (Y : World) (u v : Value) (hu : RV Y u (oneZ T [])) (hv : RV Y v q) => rz_mulV hu hv (fit_one (c := T) (m := []) (k := 2) rfl (lenI_lt (by show T.natAbs < 4294967296 ^ 2; have := HT12.out; omega))) HFQ.out (by decide) (by decide) (by decide) (by decide) (scale_times HT0.out HFQ.out.can))
        have C4 := hid (fun (Y : World) (u : Value) (hu : RV Y u (scaleP T q)) => rz_poly hu HC.out.1 (by decide) (by decide))
        have C5 := fun (Y : World) (u : Value) (hY : Ext w4 Y) (hu : PV Y u (scaleP T q)) => side_ofP (HLW.out Y hY) lay3_ok hu HC.out.1 HC.out.2 (by decide) (by decide) (by decide) (by decide)
        rw [whole_scale HT0.out HFQ.out.can h0, ← hs] at C5
        have C5 := hid C5
        clear hm hmn h0 hs fC hC0
        go_upto_region 14 with fail
        go_cut [20, 21] (fun us ue wx => ∃ (bs : Nat) (an : Option Addr) (cn : Nat) (ap : Option Addr) (cp : Nat), us = .pointer (some ⟨bs, 0, none⟩) ∧ ue = .int .i64 0 ∧ Hid (SV w4 bs wx s (.slice an (s).pts.length cn) (.slice ap (s).poly.length cp)))
        case first =>
         have HXD := hid (show Ext w4 w4.drew from Ext.drew (Ext.refl _))
         go_region_held3 (fun Y => Y.cell? ⟨b1, 0, none⟩ = some (.slice ap 3 cp) ∧ Y.cell? ⟨b1, 1, none⟩ = some (.slice aa 3 ca) ∧ Y.cell? ⟨b1, 2, none⟩ = some (.int .i64 lay3.par) ∧ Y.cell? ⟨b1, 3, none⟩ = some (.int .i64 lay3.vrs)) (first | exact HSW.out _ HXD.out | exact HSW.out _ (((Ext.refl w4).alloc _).drew) | exact HSW.out _ HX1.out | exact HSW.out _ (HX1.out.alloc _) | exact HSW.out _ HX2.out | exact HSW.out _ (HX2.out.alloc _) | exact HSW.out _ HX3.out | exact HSW.out _ (HX3.out.alloc _) | exact HSW.out _ HX4.out | exact HSW.out _ (HX4.out.alloc _) | exact HSW.out _ HX5.out | exact HSW.out _ (HX5.out.alloc _) | exact HSW.out _ (ext_set3 HX5.out BX.out.lo _ _ _) | exact HSW.out _ (ext_set3 (HX5.out.alloc _) HX5.out.size _ _ _))
          (first
           | (go_at_call 19; ((with_reducible refine (C1.out _).mono ?_)); rintro e w1 ⟨v1, rfl, hp1, hx1⟩; (first | (have HX1 := hid (HXD.out.trans hx1)) | (have HX1 := hid ((((Ext.refl w4).alloc _).drew).trans hx1)) | fail); (try (have BX := hid (sbx_drew hx1))); have HP1_1 := hid hp1; obtain ⟨a1, c1, rfl⟩ := hp1.form; clear hx1 hp1)
           | (go_at_call 12; (first | (with_reducible refine (C2.out w1  HX1.out ).mono ?_) | (with_reducible refine (C2.out _  (HX1.out.alloc _) ).mono ?_) | fail); rintro e w2 ⟨v2, rfl, hp2, hx2⟩; (first | (have HX2 := hid (HX1.out.trans hx2)) | (have HX2 := hid ((HX1.out.alloc _).trans hx2)) | fail); (first | (have BX := hid (BX.out.ext hx2)) | (have BX := hid (sbx_new HX1.out hx2)) | skip); (first | (have HP1_2 := hid (RTs.on HP1_1.out hx2)) | (have HP1_2 := hid (RTs.on HP1_1.out ((Ext.alloc (Ext.refl w1) _).trans hx2))) | fail); have HP2_2 := hid hp2; obtain ⟨a2, c2, rfl⟩ := hp2.form; clear hx2 hp2)
           | (go_at_call 18; (first | (with_reducible refine (C3.out w2 _ _  HP1_2.out HP2_2.out).mono ?_) | (with_reducible refine (C3.out _ _ _  (RTs.on HP1_2.out (Ext.alloc (Ext.refl w2) _)) (RTs.on HP2_2.out (Ext.alloc (Ext.refl w2) _))).mono ?_) | fail); rintro e w3 ⟨v3, rfl, hp3, hx3⟩; (first | (have HX3 := hid (HX2.out.trans hx3)) | (have HX3 := hid ((HX2.out.alloc _).trans hx3)) | fail); (first | (have BX := hid (BX.out.ext hx3)) | (have BX := hid (sbx_new HX2.out hx3)) | skip); have HP3_3 := hid hp3; obtain ⟨a3, c3, rfl⟩ := hp3.form; clear hx3 hp3)
           | (go_at_call 20; (first | (with_reducible refine (C4.out w3 _  HP3_3.out).mono ?_) | (with_reducible refine (C4.out _ _  (RTs.on HP3_3.out (Ext.alloc (Ext.refl w3) _))).mono ?_) | fail); rintro e w4 ⟨v4, rfl, hp4, hx4⟩; (first | (have HX4 := hid (HX3.out.trans hx4)) | (have HX4 := hid ((HX3.out.alloc _).trans hx4)) | fail); (first | (have BX := hid (BX.out.ext hx4)) | (have BX := hid (sbx_new HX3.out hx4)) | skip); have HP4_4 := hid hp4; obtain ⟨a4, c4, rfl⟩ := hp4.form; clear hx4 hp4)
           | (go_at_call 9; (first | (with_reducible refine (C5.out w4 _ HX4.out HP4_4.out).mono ?_) | (with_reducible refine (C5.out _ _ (HX4.out.alloc _) (Terms.on HP4_4.out (Ext.alloc (Ext.refl w4) _))).mono ?_) | fail); rintro e w5 ⟨v5, rfl, ⟨vn, vp, rfl, hs, ht⟩, hx5⟩; (try (have BX0 := BX)); (first | (have HX5 := hid (HX4.out.trans hx5)) | (have HX5 := hid ((HX4.out.alloc _).trans hx5)) | fail); (first | (have BX := hid (BX.out.ext hx5)) | (have BX := hid (sbx_new HX4.out hx5)) | skip); (try (obtain ⟨y0, y1, y2, yf0, yf1, yf2, -⟩ := BX.out)); have HS := hid hs; have HT := hid ht; have HXL := hid hx5; obtain ⟨an, cn, rfl⟩ := hs.form; obtain ⟨ap, cp, rfl⟩ := ht.form; clear hx5 hs ht)
           | fail)
         all_goals
          go_wp2_with fail
          go_meet
          first
           | exact ⟨_, _, _, _, _, rfl, rfl, hid (SV.put BX.out HX5.out (HS.out.to (Kept.refl _ _) (fun k hk => ⟨hk.2, fun e => by have h1 := hk.1; rw [size_alloc] at h1; omega⟩)) (HT.out.to (Kept.refl _ _) (fun k hk => ⟨hk.2, fun e => by have h1 := hk.1; rw [size_alloc] at h1; omega⟩)))⟩
           | exact ⟨_, _, _, _, _, rfl, rfl, hid (SV.put BX.out HX5.out (HS.out.to (Kept.refl _ _) (fun k hk => ⟨hk.2, fun e => by have h1 := hk.1; have h2 := lt_of_cell BX0.out.c0; omega⟩)) (HT.out.to (Kept.refl _ _) (fun k hk => ⟨hk.2, fun e => by have h1 := hk.1; have h2 := lt_of_cell BX0.out.c0; omega⟩)))⟩
           | exact ⟨_, _, _, _, _, rfl, rfl, hid (SV.fresh HX5.out (HS.out.to (Kept.refl _ _) (fun k hk => hk.2)) (HT.out.to (Kept.refl _ _) (fun k hk => hk.2)) _)⟩
           | fail
        case rest =>
         obtain ⟨b7, an7, cn7, ap7, cp7, rfl, rfl, HSV⟩ := hcut
         obtain ⟨w6, hw6⟩ : ∃ Y, Y = wc := ⟨_, rfl⟩
         rw [← hw6] at HSV ⊢
         clear hw6
         have HX6 := hid HSV.out.1
         have HX6W := hid (HX4W.out.trans HX6.out)
         have q3 := HW0.out
         obtain ⟨p0, p1, p2⟩ := HSV.out.2.2.1
         obtain ⟨d0, d1, d2, d3⟩ := HSW.out w6 HX6.out
         go_upto_region 17 with fail
         have hb := told_bounds lay3 (wholeP q)
         rw [← HSE.out] at hb
         have CP := side_poly (k := 20) (n := 40) (HLW.out w6 HX6.out) lay3_ok HSV.out.side (fun t ht => by rw [HSP.out] at ht; exact Nat.le_trans (HFQ.out.whole.lens t ht) (by decide)) (by decide) (by rw [HSP.out, ofP_len]; exact Nat.le_trans HFQ.out.whole.2.2 (by decide)) (by decide) hb.1 hb.2
         rw [show polyX lay3 s = (0, wholeP q) from by rw [HSE.out]; exact poly_told HFQ.out.can HQ0.out] at CP
         have CP := hid CP
         clear hb
         go_wp2_with fail
         with_reducible refine CP.out.mono ?_
         rintro e w7 ⟨v7, rfl, ht7, hx7⟩
         have HX7 := hid (HX6.out.trans hx7)
         have HT7 := hid ht7
         obtain ⟨a7, c7, rfl⟩ := ht7.form
         have HSV7 := hid (HSV.out.ext hx7)
         have CW := hid (ref_whole28 (HPQ.out w7 HX7.out) HFQ.out (by decide) (by decide))
         obtain ⟨nw, hnw⟩ : ∃ n, n = (ofP (wholeP q)).length := ⟨_, rfl⟩
         rw [← hnw] at HT7 ⊢
         have HNWW := hid hnw
         clear hnw ht7 hx7 p0 p1 p2 d0 d1 d2 d3 q3
         go_upto_region 18 with fail
         obtain ⟨p0, p1, p2⟩ := HSV7.out.2.2.1
         go_wp2_with fail
         with_reducible refine CW.out.mono ?_
         rintro e w8 ⟨v8, rfl, ht8, hx8⟩
         have HX8 := hid (HX7.out.trans hx8)
         have HSV8 := hid (HSV7.out.ext hx8)
         have HT78 := hid (Terms.on HT7.out hx8)
         have CS := rpoly_same (S := Old w8) (.slice a7 nw c7) v8 (ofP (wholeP q)) (ofP (wholeP q)) w8 HT78.out ht8 (fun _ h => h)
         rw [show decide (ofP (wholeP q) = ofP (wholeP q)) = true from decide_eq_true rfl] at CS
         have CS := hid CS
         obtain ⟨a8, c8, rfl⟩ := ht8.form
         clear ht8 hx8 p0 p1 p2
         go_wp2_with fail
         with_reducible refine CS.out.mono ?_
         rintro e w9 ⟨rfl, hx9⟩
         have HX9 := hid (HX8.out.trans hx9)
         have HSV9 := hid (HSV8.out.ext hx9)
         have HT9 := hid (Terms.on HT78.out hx9)
         clear hx9
         obtain ⟨p0, p1, p2⟩ := HSV9.out.2.2.1
         have CZ := rpoly_same (S := Old w9) (.slice ap7 s.poly.length cp7) (.slice a7 nw c7) s.poly (ofP (wholeP q)) w9 HSV9.out.2.2.2.2 HT9.out (fun _ h => h)
         rw [decide_eq_true HSP.out] at CZ
         have CZ := hid CZ
         go_wp2_with fail
         with_reducible refine CZ.out.mono ?_
         rintro e w10 ⟨rfl, hx10⟩
         have HX10 := hid (HX4W.out.trans (HX9.out.trans hx10))
         clear hx10 p0 p1 p2
         go_wp2_with fail
         with_reducible refine (law28_known _).mono ?_
         rintro e wz ⟨rfl, hxz⟩
         have HXZ := hid (HX10.out.trans hxz)
         clear hxz
         go_wp2
         all_goals
          go_ret
          exact ⟨rfl, HXZ.out⟩
       ·have qe : (er != 0) = true := by rw [bne_iff_ne]; exact he
        clear he
        go_wp2_with fail
        with_reducible refine (law28_known _).mono ?_
        rintro e wz ⟨rfl, hxz⟩
        have HXZ := hid (HX4W.out.trans hxz)
        clear hxz
        go_wp2
        all_goals
         go_ret
         exact ⟨rfl, HXZ.out⟩
end
section
open Go.RowKit Go.Deep Go.ChangeShapes Go.WideShapes Go.ChangeAt
section
variable {P : Program} {H : Type} {enc : TypeId × Value → H} {w W : World} {base b0 : Nat} {spare sp : Nat → Bool} {held : Bool}
theorem trodAll_six28 {t0 t1 t2 t3 t4 t5 : TypeId} {args : Array Value} {ds : List (DataW H)} {ps : List MemPlace} (h : DataW.TrodAll enc P w base spare held [t0, t1, t2, t3, t4, t5] args.toList ds ps) :
  ∃ v0 v1 v2 v3 v4 v5 d0 d1 d2 d3 d4 d5 p0 p1 p2 p3 p4 p5, args = #[v0, v1, v2, v3, v4, v5] ∧ ds = [d0, d1, d2, d3, d4, d5] ∧ ps = p0 ++ p1 ++ p2 ++ p3 ++ p4 ++ p5 ∧ DataW.Trod enc P w base spare held t0 v0 d0 p0 ∧ DataW.Trod enc P w base spare held t1 v1 d1 p1 ∧ DataW.Trod enc P w base spare held t2 v2 d2 p2 ∧ DataW.Trod enc P w base spare held t3 v3 d3 p3 ∧ DataW.Trod enc P w base spare held t4 v4 d4 p4 ∧ DataW.Trod enc P w base spare held t5 v5 d5 p5 := by
 obtain ⟨v0, vs, d0, ds0, p0, q0, hargs, rfl, rfl, h0, r0⟩ := trodAll_cons h
 obtain ⟨v1, vs1, d1, ds1, p1, q1, rfl, rfl, rfl, h1, r1⟩ := trodAll_cons r0
 obtain ⟨v2, vs2, d2, ds2, p2, q2, rfl, rfl, rfl, h2, r2⟩ := trodAll_cons r1
 obtain ⟨v3, vs3, d3, ds3, p3, q3, rfl, rfl, rfl, h3, r3⟩ := trodAll_cons r2
 obtain ⟨v4, vs4, d4, ds4, p4, q4, rfl, rfl, rfl, h4, r4⟩ := trodAll_cons r3
 obtain ⟨v5, vs5, d5, ds5, p5, q5, rfl, rfl, rfl, h5, r5⟩ := trodAll_cons r4
 obtain ⟨rfl, rfl, rfl⟩ := trodAll_nil r5
 exact ⟨v0, v1, v2, v3, v4, v5, d0, d1, d2, d3, d4, d5, p0, p1, p2, p3, p4, p5, by cases args; simp_all, rfl, by simp, h0, h1, h2, h3, h4, h5⟩
theorem str_arg28 {fuel : Nat} {v : Value} {x : DataW H × List MemPlace} (hv : Value.okWide Tryz.prog W .any base 9 v) (h : DataW.trod enc Tryz.prog W b0 sp held fuel 9 v.cells.toList = some x) : ∃ s, v = .string s ∧ s.size ≤ maxLen := by
 obtain ⟨s, rfl⟩ := okWide_string Tryz.underlying9 hv
 obtain ⟨m, e, -, hw⟩ := DataW.trod_string Tryz.underlying9 h
 have e' : [Value.string s] = [.string m] := e
 obtain rfl : s = m := by simpa using e'
 exact ⟨s, rfl, by first | exact hw | exact of_decide_eq_true hw⟩
end
theorem back28_lifted (os : Os) (started : os.Started) (H : Type) (enc : TypeId × Value → H) :
  ReturnsInHanded {} Tryz.checked os 4 .any (Rows.sideBackSpec.pre6 enc Tryz.prog Tryz.f4 Rows.sideBackRow.domain false) (Rows.sideBackSpec.post enc Tryz.prog Tryz.f4 false true false false) := by
 refine returnsInHanded_of_change (C := Tryz.checked) Tryz.own started (by kernel_rfl) Tryz.func4
  (ChangeSpec.witness6 (enc := enc) (C := Tryz.checked) false ⟨#[], #[.string { data := #[] }, .int .i64 0, .int .i64 0, .int .i64 0, .int .i64 0, .int .i64 0], []⟩ 8 (by kernel_rfl) (by kernel_rfl) (by kernel_rfl) (by kernel_rfl)) ?_
 intro W base args ds gs before hval0 hW _ _
 have hval : ∀ (j : Nat) t v, Tryz.f4.params[j]? = some t → args[j]? = some v → Value.okWide Tryz.prog W .any base t v := hval0
 have hW' := hW
 obtain ⟨p, q, hA0, hV, _, _, _⟩ := hW'
 have hA : DataW.TrodAll enc Tryz.prog W 0 (fun _ => true) true Tryz.f4.params.toList args.toList ds p := hA0
 rw [Tryz.params4] at hA hval
 obtain ⟨v0, v1, v2, v3, v4, v5, d0, d1, d2, d3, d4, d5, p0, p1, p2, p3, p4, p5, rfl, rfl, rfl, h0, h1, h2, h3, h4, h5⟩ := trodAll_six28 hA
 obtain ⟨rfl, rfl⟩ := trodVars_none hV
 obtain ⟨fuel0, hf0⟩ := h0
 obtain ⟨wd, rfl, hwd⟩ := str_arg28 (hval 0 _ v0 rfl rfl) hf0
 obtain ⟨fuel1, hf1⟩ := h1
 obtain ⟨y1, rfl, hy1⟩ := int_arg12 (hval 1 _ v1 rfl rfl) hf1
 obtain ⟨fuel2, hf2⟩ := h2
 obtain ⟨y2, rfl, hy2⟩ := int_arg12 (hval 2 _ v2 rfl rfl) hf2
 obtain ⟨fuel3, hf3⟩ := h3
 obtain ⟨y3, rfl, hy3⟩ := int_arg12 (hval 3 _ v3 rfl rfl) hf3
 obtain ⟨fuel4, hf4⟩ := h4
 obtain ⟨y4, rfl, hy4⟩ := int_arg12 (hval 4 _ v4 rfl rfl) hf4
 obtain ⟨fuel5, hf5⟩ := h5
 obtain ⟨y5, rfl, hy5⟩ := int_arg12 (hval 5 _ v5 rfl rfl) hf5
 refine (law28_back hwd).mono fun e W' h => ?_
 obtain ⟨rfl, hb⟩ := h
 exact ⟨_, rfl, law_post hW rfl rfl rfl (by rw [Tryz.params4]; intro t ht; simp at ht; rcases ht with rfl | rfl <;> exact ⟨by kernel_rfl, by decide +kernel⟩) hb⟩
theorem sideback_holds : Rows.SideBackSaid :=
 OpenClaim.holds_of_wide 4 Tryz.f4 rfl rfl rfl rfl rfl rfl rfl ⟨rfl, rfl, rfl, rfl, rfl⟩ rfl rfl rfl rfl rfl (by kernel_rfl) Tryz.func4 (by kernel_rfl)
  (of_decide_eq_true (by kernel_rfl)) (by unfold Func.isWrapper; first | (rw [if_pos (by decide +kernel)]; kernel_rfl) | (rw [if_neg (by decide +kernel)]; exact ⟨rfl, rfl⟩))
  (fun os started H enc _ => back28_lifted os started H enc)
end
end Go.Proofs.YtbfflodidkfphaaGreat
