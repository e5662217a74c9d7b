/- Decimal digits out of limbs and back. -/
import Derived.Test.YthplgldclilccaaDig
namespace Go.Proofs.Ythplgldclilccaa
open Go.RowKit

theorem pow32_10 (k : Nat) : B32 ^ k ≤ 10 ^ (10 * k) := by
  rw [Nat.pow_mul]
  exact Nat.pow_le_pow_left (by decide) k
theorem rep10_len {V k : Nat} (h : V < B32 ^ k) : (rep 10 V).length ≤ 10 * k := rep_len_le two_le_10 _ _ (Nat.lt_of_lt_of_le h (pow32_10 k))
theorem rep32_len {V k : Nat} (h : V < 10 ^ k) : (rep B32 V).length ≤ k := rep_len_le two_le_B32 _ _ (Nat.lt_of_lt_of_le h (Nat.pow_le_pow_left (by decide) k))
theorem times_len {d : List Nat} {y : Nat} (h : ∀ z ∈ d, z < 10) (hy : y < 65536) : (rep 10 (val 10 d * 65536 + y)).length ≤ d.length + 5 := by
  refine rep_len_le two_le_10 _ _ ?_
  have h1 := val_lt d h
  rw [Nat.pow_add]
  generalize 10 ^ d.length = P at *
  have h2 : (val 10 d + 1) * 65536 ≤ P * 65536 := Nat.mul_le_mul_right _ h1
  omega
theorem limb_in {B x V : Nat} (h : V = x + B32 * B) : (B * 65536 + x / 65536) * 65536 + x % 65536 = V := by
  subst h
  show _ = x + 4294967296 * B
  omega

theorem dig_times6 {S : Nat → Prop} (v : Value) (zs : List Nat) (m : Int) (w : World) (h : Digs S w v zs) (hS : ∀ k, S k → k < w.heap.size) (hr : zs.length ≤ 10000000) (hm : 0 ≤ m ∧ m ≤ 65536) :
    Calls Try.prog 129 #[v, .int .i64 65536, .int .i64 m] w fun e w' => ∃ v', e = .returned v' ∧ Digs (New w w') w' v' (rep 10 (val 10 zs * 65536 + m.toNat)) ∧ Ext w w' :=
  dig_times v zs 65536 m w h hS hr (by decide) (by decide) hm.1 hm.2

set_option maxRecDepth 100000 in
set_option maxHeartbeats 4000000 in
theorem dig_of {S : Nat → Prop} (v : Value) (zs : List Nat) (w : World) (h : U32s S w v zs) (hS : ∀ k, S k → k < w.heap.size) (hr : zs.length ≤ 100000) :
    Calls Try.prog 106 #[v] w fun e w' => ∃ v', e = .returned v' ∧ Digs (New w w') w' v' (rep 10 (val B32 zs)) ∧ Ext w w' := by
  have H := hid h
  have HLT := hid h.lt
  obtain ⟨a, cap, rfl⟩ := h.form
  clear h
  go_enter Try.func106, Try.ntmps106
  go_wp2
  go_loopw [3, 4] (fun d i wr => ∃ k : Nat, k ≤ zs.length ∧ i = .int .i64 ((k : Int) - 1) ∧ Hid (Digs (New w wr) wr d (rep 10 (val B32 (zs.drop k)))) ∧ Ext w wr) (fun _ i _ => (intOf i + 1).toNat)
  case atStart => exact ⟨zs.length, Nat.le_refl _, rfl, hid (by rw [List.drop_length]; exact Digs.nilv _ _ _ _ (by omega)), Ext.refl _⟩
  case round =>
    obtain ⟨k, hk, rfl, HD, hx⟩ := hrel
    cases k with
    | succ q =>
      have hq1 : ((q + 1 : Nat) : Int) - 1 = (q : Int) := by omega
      obtain ⟨x, hx1⟩ := some_of_lt (show q < zs.length by omega)
      obtain ⟨b, off, rfl, -, hn1, hm1, hSb, hxb, hc1⟩ := H.out.cellAt hx1
      have g1 := hx.cell hc1
      have HC := hid hc1
      have HV := hid (limb_in (val_drop hx1))
      have HX := hid hx
      obtain ⟨d0, hd0⟩ : ∃ d, d = rep 10 (val B32 (zs.drop (q + 1))) := ⟨_, rfl⟩
      have hdl : d0.length ≤ 1000000 := by
        rw [hd0]
        refine Nat.le_trans (rep10_len (k := (zs.drop (q + 1)).length) (val_lt _ (fun z hz => HLT.out z (List.mem_of_mem_drop hz)))) ?_
        rw [List.length_drop]
        omega
      have hv0 : val 10 d0 = val B32 (zs.drop (q + 1)) := by rw [hd0, val_rep two_le_10]
      have hd := HD.out
      rw [← hd0] at hd
      have HD1 := hid hd
      obtain ⟨ad, cd, rfl⟩ := hd.form
      have HDL := hid hdl
      have HV0 := hid hv0
      have hqn : q < zs.length := by omega
      clear hx1 hc1 hx hd0 hd hv0 hdl HD
      simp only [hq1]
      have hw1 : IntKind.i64.wrap (IntKind.u32.wrap ((x : Int) / 65536)) = (x : Int) / 65536 := by rw [IntKind.wrap_u32, IntKind.wrap_i64] <;> omega
      have hw2 : IntKind.i64.wrap ((x : Int).tmod 65536) = (x : Int) % 65536 := by rw [Int.tmod_eq_emod_of_nonneg (by omega), IntKind.wrap_i64]; omega
      have HB1 : Hid (0 ≤ (x : Int) / 65536 ∧ (x : Int) / 65536 ≤ 65536) := hid (by omega)
      have HB2 : Hid (0 ≤ (x : Int) % 65536 ∧ (x : Int) % 65536 ≤ 65536) := hid (by omega)
      have HL1 := hid (Nat.le_trans HDL.out (show 1000000 ≤ 10000000 by decide))
      have HL2 : Hid ((rep 10 (val 10 d0 * 65536 + ((x : Int) / 65536).toNat)).length ≤ 10000000) := hid (Nat.le_trans (times_len (HD1.out.lt) (by omega)) (by have := HDL.out; omega))
      go_wp2
      have S0 : wr.drew.cell? ⟨b, off + q, none⟩ = some (.int .u32 (x : Nat)) := by simpa using g1
      have X0 := hid (Ext.drew (Ext.refl wr))
      go_region_held3 (fun W => W.cell? ⟨b, off + q, none⟩ = some (.int .u32 (x : Nat))) (first | exact S0 | exact S1 | exact S2)
        (first
          | (go_at_call 129; (with_reducible refine (dig_times6 _ d0 _ _ (HD1.out.ext X0.out New.lt) (lt_ext New.lt X0.out) HL1.out HB1.out).mono ?_); rintro e w1 ⟨v1, rfl, hd1, hx1⟩; have S1 := hx1.cell S0; have HX1 := hid hx1; have HE1 := hid hd1; obtain ⟨a1, c1, rfl⟩ := hd1.form; clear hx1 hd1)
          | (go_at_call 129; (with_reducible refine (dig_times6 _ _ _ _ HE1.out New.lt HL2.out HB2.out).mono ?_); rintro e w2 ⟨v2, rfl, hd2, hx2⟩; have S2 := hx2.cell S1; have HX2 := hid hx2; have HE2 := hid hd2; obtain ⟨a2, c2, rfl⟩ := hd2.form; clear hx2 hd2))
      clear hw1 hw2
      go_wp2
      go_roundw
      case rel =>
        refine ⟨q, by omega, rfl, hid ?_, HX.out.trans (X0.out.trans (HX1.out.trans HX2.out))⟩
        have e : (val 10 (rep 10 (val 10 d0 * 65536 + ((x : Int) / 65536).toNat)) * 65536 + ((x : Int) % 65536).toNat) = val B32 (zs.drop q) := by
          rw [val_rep two_le_10, ← HV.out, HV0.out]
          have e1 : ((x : Int) / 65536).toNat = x / 65536 := by omega
          have e2 : ((x : Int) % 65536).toNat = x % 65536 := by omega
          rw [e1, e2]
        have h2 := HE2.out
        rw [e] at h2 ⊢
        exact h2.to (Kept.refl _ _) (New.mono (HX.out.trans (X0.out.trans HX1.out)))
      case measure => simp only [intOf]; omega
    | zero =>
      have HX := hid hx
      clear hx
      go_wp2
      all_goals
        go_ret
        exact ⟨_, rfl, HD.out, HX.out⟩

theorem rep_split {B N m : Nat} {o : List Nat} (hB : 2 ≤ B) (h : rep B N = o ++ rep B m) (hm : 0 < m) : rep B N = (o ++ [m % B]) ++ rep B (m / B) := by
  rw [h, rep_pos hB hm]
  simp

set_option maxRecDepth 100000 in
set_option maxHeartbeats 4000000 in
theorem dig_small (n : Nat) (w : World) (hn : n < 18446744073709551616) :
    Calls Try.prog 98 #[.int .u64 (n : Nat)] w fun e w' => ∃ v', e = .returned v' ∧ Digs (New w w') w' v' (rep 10 n) ∧ Ext w w' := by
  have hlen : (rep 10 n).length ≤ 20 := rep_len_le two_le_10 _ _ (Nat.lt_of_lt_of_le hn (by decide))
  have HL := hid hlen
  clear hlen
  go_enter Try.func98, Try.ntmps98
  go_wp2
  go_loopw [0, 3] (fun i x wr => ∃ (m : Nat) (o : List Nat), i = .int .u64 m ∧ m < 18446744073709551616 ∧ Hid (rep 10 n = o ++ rep 10 m) ∧ Hid (wr.ownsRow w.heap.size 3 1 x o.length (o.map dval)) ∧ Ext w wr) (fun i _ _ => (intOf i).toNat)
  case atStart => exact ⟨n, [], rfl, hn, hid rfl, hid (World.ownsRow_nil _ _ _ _), Ext.refl _⟩
  case round =>
    obtain ⟨m, o, rfl, hm, HV, HW, hx⟩ := hrel
    have HX := hid hx
    clear hx
    by_cases h0 : 0 < m
    · have hol2 : o.length ≤ 1000000000 := by
        have := HL.out
        rw [HV.out, List.length_append] at this
        omega
      go_wp2_with (at_builtin; refine wpList_append_new _ rfl (.tmp 6) (.tmp 10) 98 rfl w.heap.size 3 (.int .i64 0) 1 8 Try.underlying98 Try.infoInt rfl (by decide) _ o.length (o.map dval) rfl HW.out _ rfl (one_cell rfl) rfl hol2 (by decide) HX.out.size ?_; intro v1 w1 hown hg _; have HOW := hid hown; have HG := hid hg; clear hown hg)
      go_roundw
      case rel =>
        refine ⟨m / 10, o ++ [m % 10], by go_num, by omega, hid (rep_split two_le_10 HV.out h0), hid (own_snoc HOW.out (by unfold dval; congr 1)), ext_grown HX.out HG.out ?_⟩
        intro q hq
        exact (HW.out.lt q hq).1
      case measure => simp only [intOf]; omega
    · obtain rfl : m = 0 := by omega
      have e : rep 10 n = o := by rw [HV.out, rep_zero, List.append_nil]
      have E := hid e
      clear e
      go_wp2
      all_goals
        go_ret
        refine ⟨_, rfl, ?_, HX.out⟩
        rw [E.out]
        exact own_digs HW.out (fun z hz => rep_lt two_le_10 n z (by rw [E.out]; exact hz))

/-- a row of digits, known whole -/
def rowD (o : List Nat) : Nat → Value := fun j => dval (dg o j)
theorem rowD_set {w : World} {T : TypeId} {n g : Nat} {o : List Nat} (h : w.rowIs g T n (rowD o)) (k z : Nat) (hk : k < o.length) : (w.setCell ⟨g, k, none⟩ (dval z)).rowIs g T n (rowD (o.set k z)) := by
  refine (h.set k (dval z)).congr (fun i hi => ?_)
  unfold rowD dg
  rw [List.getElem?_set]
  by_cases e : i = k
  · subst e
    simp [hk]
  · rw [if_neg e, if_neg (fun h => e h.symm)]
theorem rowD_zeros (w : World) (n : Nat) (T : TypeId) : (w.alloc (.cells (madeCells #[.int .i64 0] n) T)).rowIs w.heap.size T n (rowD (List.replicate n 0)) :=
  (World.rowIs_made w (.int .i64 0) n T).congr (fun i hi => by simp [rowD, dg, dval, hi])
theorem Digs.of_row {w : World} {T : TypeId} {g cap : Nat} {o : List Nat} (h : w.rowIs g T cap (rowD o)) (ho : o.length = cap) (hl : ∀ z ∈ o, z < 10) (hc : cap ≤ 9223372036854775807) : Digs (fun k => k = g) w (.slice (some ⟨g, 0, none⟩) cap cap) o := by
  subst ho
  refine ⟨g, 0, ⟨_, o.length, rfl, Nat.le_refl _, by unfold maxLen; omega, fun _ => rfl, fun _ => rfl⟩, fun j z hz => ⟨hl z (List.mem_of_getElem? hz), ?_⟩⟩
  have hj := lt_of_some hz
  rw [Nat.zero_add, h.cell (i := j) hj]
  simp [rowD, dval, dg, hz]

theorem drop_set {o : List Nat} {q z : Nat} (h : q < o.length) : (o.set q z).drop q = z :: o.drop (q + 1) := by
  rw [List.drop_eq_getElem_cons (by simpa using h)]
  simp [List.drop_set]

theorem by_step {ds o : List Nat} {q x n r : Nat} (hx : ds[q]? = some x) (hq : q < o.length) (h : val 10 (ds.drop (q + 1)) = val 10 (o.drop (q + 1)) * n + r) :
    val 10 (ds.drop q) = val 10 ((o.set q ((r * 10 + x) / n)).drop q) * n + (r * 10 + x) % n := by
  rw [val_drop hx, drop_set hq, val, h]
  have := quot_step (V := val 10 (o.drop (q + 1)) * n + r) (d := x) (n := n) (q := val 10 (o.drop (q + 1))) (r := r) rfl
  rw [Nat.mul_comm r 10, Nat.add_comm x, this, Nat.add_comm (10 * val 10 (List.drop (q + 1) o))]

set_option maxRecDepth 100000 in
set_option maxHeartbeats 4000000 in
theorem dig_by {S : Nat → Prop} (v : Value) (zs : List Nat) (n : Int) (w : World) (h : Digs S w v zs) (hS : ∀ k, S k → k < w.heap.size) (hr : zs.length ≤ 10000000) (hn0 : 0 < n) (hn : n ≤ 65536) :
    Calls Try.prog 126 #[v, .int .i64 n] w fun e w' => ∃ v', e = .returned (.tuple #[v', .int .i64 ((val 10 zs % n.toNat : Nat) : Int)]) ∧ Digs (New w w') w' v' (rep 10 (val 10 zs / n.toNat)) ∧ Ext w w' := by
  obtain ⟨n, rfl⟩ := Int.eq_ofNat_of_zero_le (Int.le_of_lt hn0)
  simp only [Int.toNat_natCast]
  have hnp : 0 < n := by omega
  have H := hid h
  have HLT := hid h.lt
  obtain ⟨a, cap, rfl⟩ := h.form
  clear h hn0
  have hmk := run_make_row' (P := Try.prog) 98 3 (.int .i64 0) 8 Try.underlying98 Try.infoInt rfl .i64 .i64 zs.length (by omega) (by omega) w
  have hz : w.heap.size < (w.alloc (.cells (madeCells #[.int .i64 0] zs.length) 3)).heap.size := by simp
  have HR := hid (rowD_zeros w zs.length 3)
  have HE := hid (Ext.alloc (Ext.refl w) (.cells (madeCells #[.int .i64 0] zs.length) 3))
  go_enter Try.func126, Try.ntmps126
  go_wp2
  go_loopw [7, 8] (fun rr i wr => ∃ (k r : Nat) (o : List Nat), k ≤ zs.length ∧ i = .int .i64 ((k : Int) - 1) ∧ rr = .int .i64 r ∧ r < n ∧ Hid (o.length = zs.length) ∧ Hid (∀ z ∈ o, z < 10) ∧ wr.rowIs w.heap.size 3 zs.length (rowD o) ∧ Ext w wr ∧
    Hid (val 10 (zs.drop k) = val 10 (o.drop k) * n + r)) (fun _ i _ => (intOf i + 1).toNat)
  case atStart => exact ⟨zs.length, 0, List.replicate zs.length 0, Nat.le_refl _, rfl, rfl, hnp, hid (by simp), hid (by simp), HR.out, HE.out, hid (by rw [List.drop_length, List.drop_eq_nil_of_le (by simp)]; simp [val])⟩
  case round =>
    obtain ⟨k, r, o, hk, rfl, rfl, hrn, HOL, HO, hrow, hx, HV⟩ := hrel
    cases k with
    | succ q =>
      have hq1 : ((q + 1 : Nat) : Int) - 1 = (q : Int) := by omega
      have hqn : q < zs.length := by omega
      obtain ⟨x, hx1⟩ := some_of_lt hqn
      obtain ⟨b, off, rfl, -, hn1, hm1, hSb, hxb, hc1⟩ := H.out.cellAt hx1
      have g1 := hx.cell hc1
      have hcs := hrow.cell (i := q) hqn
      have hfs := hrow.frozen q
      have HX1 := hid hx1
      have HROW := hid hrow
      have HX := hid hx
      obtain ⟨p, hp⟩ : ∃ p : Nat, p = r * 10 + x := ⟨_, rfl⟩
      have hmul : (r : Int) * 10 + (x : Int) = (p : Int) := by rw [hp]; omega
      have hpb : p < n * 10 := by rw [hp]; omega
      obtain ⟨dq, hdq⟩ : ∃ d, d = p / n := ⟨_, rfl⟩
      obtain ⟨dm, hdm⟩ : ∃ d, d = p % n := ⟨_, rfl⟩
      have hpd : dq < 10 := by rw [hdq]; exact Nat.div_lt_of_lt_mul hpb
      have hpm : dm < n := by rw [hdm]; exact Nat.mod_lt _ hnp
      have hdv : (p : Int) / (n : Int) = (dq : Int) := by rw [hdq]; simp
      have hmd : (p : Int) % (n : Int) = (dm : Int) := by rw [hdm]; simp
      have HDQ := hid hdq
      have HDM := hid hdm
      clear hdq hdm
      have HP := hid hp
      clear hx1 hc1 hx hrow hp
      have hne : ¬ n = 0 := by omega
      simp only [hq1]
      go_wp2
      go_roundw
      case rel =>
        have hs : (wr.setCell ⟨w.heap.size, q, none⟩ (dval dq)).rowIs w.heap.size 3 zs.length (rowD (o.set q dq)) := rowD_set HROW.out q dq (by rw [HOL.out]; exact hqn)
        refine ⟨q, dm, o.set q dq, by omega, rfl, congrArg (Value.int .i64) hmd, hpm, hid (by simpa using HOL.out), ?_, hs, HX.out.setCell (p := ⟨w.heap.size, q, none⟩) (Nat.le_refl _) _, hid ?_⟩
        · refine hid (fun z hz => ?_)
          rcases List.mem_or_eq_of_mem_set hz with h | h
          · exact HO.out z h
          · rw [h]; exact hpd
        · rw [HDQ.out, HDM.out, HP.out]
          exact by_step HX1.out (by rw [HOL.out]; exact hqn) HV.out
      case measure => simp only [intOf]; omega
    | zero =>
      have HROW := hid hrow
      have HX := hid hx
      have hd := (Digs.of_row hrow HOL.out HO.out (by omega))
      have HD := hid hd
      have HV0 : Hid (val 10 zs = val 10 o * n + r) := hid (by simpa using HV.out)
      clear hrow hx hd
      go_wp2_with fail
      refine (dig_trim _ o _ HD.out).mono ?_
      rintro e w' ⟨v', rfl, hu, rfl⟩
      have HU := hid hu
      clear hu
      go_wp2
      all_goals
        go_ret2
        have e1 : val 10 zs / n = val 10 o := by rw [HV0.out, Nat.mul_comm, Nat.mul_add_div hnp, Nat.div_eq_of_lt hrn]; rfl
        have e2 : val 10 zs % n = r := by rw [HV0.out, Nat.mul_comm, Nat.mul_add_mod, Nat.mod_eq_of_lt hrn]
        refine ⟨v', ?_, ?_, HX.out⟩
        · rw [e2]
          rfl
        · rw [e1]
          refine HU.out.to (Kept.refl _ _) (fun k hk => ?_)
          subst hk
          exact ⟨Nat.le_refl _, HROW.out.lt⟩

theorem own_u32s {w : World} {v : Value} {base : Nat} {e : TypeId} {ds : List Nat} (h : w.ownsRow base e 1 v ds.length (ds.map uval)) (hl : ∀ z ∈ ds, z < B32) : U32s (fun k => base ≤ k ∧ k < w.heap.size) w v ds := by
  have hlt := h.lt
  rcases h.2 with ⟨rfl, h0⟩ | ⟨g, cap, cur, rfl, hg, hh, h1, h2, h3, h4⟩
  · obtain rfl : ds = [] := List.length_eq_zero_iff.1 h0
    exact U32s.nilv _ _ _ _ (by omega)
  · refine ⟨g, 0, ⟨_, cap, rfl, h1, h2, fun _ => rfl, fun _ => hlt g rfl⟩, fun j z hz => ⟨hl z (List.mem_of_getElem? hz), ?_⟩⟩
    rw [h.cellAt (0 + j) (by have := lt_of_some hz; omega), Nat.zero_add]
    simp [hz, uval]

theorem dig_by6 {S : Nat → Prop} (v : Value) (zs : List Nat) (w : World) (h : Digs S w v zs) (hS : ∀ k, S k → k < w.heap.size) (hr : zs.length ≤ 10000000) :
    Calls Try.prog 126 #[v, .int .i64 65536] w fun e w' => ∃ v', e = .returned (.tuple #[v', .int .i64 ((val 10 zs % 65536 : Nat) : Int)]) ∧ Digs (New w w') w' v' (rep 10 (val 10 zs / 65536)) ∧ Ext w w' :=
  dig_by v zs 65536 w h hS hr (by decide) (by decide)

theorem limb_split {N m : Nat} {o : List Nat} (h : rep B32 N = o ++ rep B32 m) (hm : 0 < m) : rep B32 N = (o ++ [m / 65536 % 65536 * 65536 + m % 65536]) ++ rep B32 (m / 65536 / 65536) := by
  have e1 : m / 65536 % 65536 * 65536 + m % 65536 = m % B32 := by show _ = m % 4294967296; omega
  have e2 : m / 65536 / 65536 = m / B32 := by show _ = m / 4294967296; omega
  rw [e1, e2]
  exact rep_split two_le_B32 h hm

theorem rep_len_lt {m : Nat} (h : 0 < m) : (rep 10 (m / 65536 / 65536)).length < (rep 10 m).length := by
  rw [rep_pos two_le_10 h, List.length_cons]
  have : (rep 10 (m / 65536 / 65536)).length ≤ (rep 10 (m / 10)).length := rep_len_le two_le_10 _ _ (Nat.lt_of_le_of_lt (by omega) (le_of_rep_len two_le_10 _))
  omega

set_option maxRecDepth 100000 in
set_option maxHeartbeats 4000000 in
theorem dig_limbs {S : Nat → Prop} (v : Value) (n : Nat) (w : World) (h : Digs S w v (rep 10 n)) (hS : ∀ k, S k → k < w.heap.size) (hr : (rep 10 n).length ≤ 10000000) :
    Calls Try.prog 102 #[v] w fun e w' => ∃ v', e = .returned v' ∧ U32s (New w w') w' v' (rep B32 n) ∧ Ext w w' := by
  have HLN : Hid (n < 10 ^ (rep 10 n).length) := hid (le_of_rep_len two_le_10 n)
  have HL32 : Hid ((rep B32 n).length ≤ 10000000) := hid (Nat.le_trans (rep32_len HLN.out) hr)
  have H := hid h
  have HR := hid hr
  clear h hr
  obtain ⟨a, cap, rfl⟩ := H.out.form
  go_enter Try.func102, Try.ntmps102
  go_wp2
  go_loopw [0, 3] (fun x y wr => ∃ (m : Nat) (o : List Nat), Hid (m ≤ n) ∧ Hid (rep B32 n = o ++ rep B32 m) ∧ Hid (wr.ownsRow w.heap.size 79 1 y o.length (o.map uval)) ∧ Ext w wr ∧ Hid (Digs (fun k => k < wr.heap.size ∧ some k ≠ y.ownBlock) wr x (rep 10 m))) (fun x _ _ => sliceLen x)
  case atStart => exact ⟨n, [], hid (Nat.le_refl _), hid rfl, hid (World.ownsRow_nil _ _ _ _), Ext.refl _, hid (H.out.to (Kept.refl _ _) (fun k hk => ⟨hS k hk, by simp [Value.ownBlock]⟩))⟩
  case round =>
    obtain ⟨m, o, HMN, HV, HW, hx, HD⟩ := hrel
    obtain ⟨a1, c1, rfl⟩ := HD.out.form
    have HX := hid hx
    clear hx
    have hlm : (rep 10 m).length ≤ 10000000 := Nat.le_trans (rep_len_le two_le_10 _ _ (Nat.lt_of_le_of_lt HMN.out HLN.out)) HR.out
    by_cases h0 : 0 < m
    · have hp : 0 < (rep 10 m).length := by
        rw [List.length_pos_iff, Ne, rep_eq_nil two_le_10]
        omega
      have hol2 : o.length ≤ 1000000000 := by
        have := HL32.out
        rw [HV.out, List.length_append] at this
        omega
      have hb1 := dig_by6 _ _ wr HD.out (fun k hk => hk.1) hlm
      rw [val_rep two_le_10] at hb1
      obtain ⟨lo, hlo⟩ : ∃ d, d = m % 65536 := ⟨_, rfl⟩
      obtain ⟨hi, hhi⟩ : ∃ d, d = m / 65536 % 65536 := ⟨_, rfl⟩
      have hlo1 : lo < 65536 := by omega
      have hhi1 : hi < 65536 := by omega
      have HLO := hid hlo
      have HHI := hid hhi
      rw [← hlo] at hb1
      have HB1 := hid hb1
      clear hlo hhi
      have HLM := hid hlm
      have HM0 := hid h0
      clear hb1 hlm h0
      go_wp2_with fail
      refine HB1.out.mono ?_
      rintro e w1 ⟨v1, rfl, hd1, hx1⟩
      have HD1 := hid hd1
      obtain ⟨a2, c2, rfl⟩ := hd1.form
      have hb2 := dig_by6 _ _ w1 hd1 New.lt (Nat.le_trans (rep_len_le two_le_10 _ _ (Nat.lt_of_le_of_lt (Nat.div_le_self _ _) (Nat.lt_of_le_of_lt HMN.out HLN.out))) HR.out)
      rw [val_rep two_le_10, ← HHI.out] at hb2
      have HB2 := hid hb2
      have HX1 := hid hx1
      clear hd1 hx1 hb2
      go_wp2_with fail
      refine HB2.out.mono ?_
      rintro e w2 ⟨v2, rfl, hd2, hx2⟩
      have HD2 := hid hd2
      have HX2 := hid (HX1.out.trans hx2)
      have HX12 := hid hx2
      obtain ⟨a3, c3, rfl⟩ := hd2.form
      clear hd2 hx2
      have hown2 : w2.ownsRow w.heap.size 79 1 _ o.length (o.map uval) := HW.out.kept (row := none) ⟨HX2.out.os, HX2.out.tape, HX2.out.output, HX2.out.size, fun k hk _ => HX2.out.block k hk⟩ (by cases hv : Value.ownBlock _ <;> simp)
      have HW2 := hid hown2
      clear hown2
      go_wp2_with (at_builtin; refine wpList_append_new _ rfl (.tmp 19) (.tmp 26) 66 rfl w.heap.size 79 (.int .u32 0) 1 4 Try.underlying66 Try.infoU32 rfl (by decide) _ o.length (o.map uval) rfl HW2.out _ rfl (one_cell rfl) rfl hol2 (by decide) (Nat.le_trans HX.out.size HX2.out.size) ?_; intro v3 w3 hown hg hbk; have HOW := hid hown; have HG := hid hg; have HBK := hid hbk; clear hown hg hbk)
      go_roundw
      case rel =>
        have hxg : Ext w w3 := ext_grown (HX.out.trans HX2.out) HG.out (fun q hq => (HW2.out.lt q hq).1)
        refine ⟨m / 65536 / 65536, o ++ [hi * 65536 + lo], hid ?_, hid ?_, hid (own_snoc HOW.out (by unfold uval; congr 1)), hxg, hid ?_⟩
        · exact Nat.le_trans (Nat.div_le_self _ _) (Nat.le_trans (Nat.div_le_self _ _) HMN.out)
        · rw [HHI.out, HLO.out]
          exact limb_split HV.out HM0.out
        · refine HD2.out.to (Kept.grown HG.out (fun k hk => ⟨hk.2, fun e => ?_⟩)) (fun k hk => ⟨Nat.lt_of_lt_of_le hk.2 HG.out.size, fun e => ?_⟩)
          · have := (HW.out.lt k e.symm).2
            have := hk.1
            have := HX1.out.size
            omega
          · rcases HBK.out with hb | hb
            · rw [hb] at e
              have := (HW.out.lt k e.symm).2
              have := hk.1
              have := HX1.out.size
              omega
            · rw [hb] at e
              have h1 : k = w2.heap.size + 1 := by simpa using e
              have := hk.2
              omega
      case measure =>
        simp only [sliceLen]
        exact rep_len_lt HM0.out
    · obtain rfl : m = 0 := by omega
      have e : rep B32 n = o := by rw [HV.out, rep_zero, List.append_nil]
      have E := hid e
      have hz : (rep 10 0).length = 0 := rfl
      clear e
      go_wp2
      all_goals
        go_ret
        refine ⟨_, rfl, ?_, HX.out⟩
        rw [E.out]
        exact own_u32s HW.out (fun z hz => rep_lt two_le_B32 n z (by rw [E.out]; exact hz))
end Go.Proofs.Ythplgldclilccaa
