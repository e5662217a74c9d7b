/- Long division of limbs: a multiple taken off, and given back. Limbs shifted by less than a limb: to the left. Limbs shifted by less than a limb: to the right. A number by a limb. The bits of a number, exactly. One limb of a quotient, plainly and of rows. Quotient and rest of two numbers: the easy cases. Quotient and rest of two numbers: Knuth's way. Quotient and rest of two numbers. Exact quotients; the greatest common divisor. Exact quotients of whole numbers. Limbs added to others from a place on. Limbs cut in two. The product of numbers of many limbs: by cutting. The product of two whole numbers, of any lengths. Slices of words in memory: where one stands, whether two are the same; a layout. A whole number with the other sign. Quotients: the canonical one of two whole numbers. From the form's own reading of an argument to what lies in memory: limbs, powers, terms, polynomials. What every law's row asks: the answer true, the arguments as they were. Arguments that are slices of polynomials, read as data. The document: is it the same data? -/
import Derived.ArgAppend
import Derived.Deep.LoopGhost
import Derived.ProofKit
import Derived.Deep.Slices
import Derived.Deep.Strs
import Derived.Test.YtbhdgdmelepnhaaGreatRows
import Derived.Lib.SmallJoins
import Derived.JoinedCond
import Derived.Test.YtbhdgdmelepnhaaGreatSd4
namespace Go.Proofs.YtbhdgdmelepnhaaGreat
open Go.RowKit

theorem and_low (t : Nat) (ht : t < 18446744073709551616) : bits .and .u64 (t : Int) 4294967295 = ((t % 4294967296 : Nat) : Int) := by
  have h := (bits_nat .u64 64 (by decide) wraps_u64' t 4294967295 (by omega) (by decide)).1
  rw [show ((4294967295 : Nat) : Int) = 4294967295 from rfl] at h
  rw [h]
  congr 1
  exact Nat.and_two_pow_sub_one_eq_mod t 32
/-- a row whose limbs from the k-th on are turned, so far -/
theorem put_snoc {w : World} {T : TypeId} {n g k : Nat} {o ps : List Nat} (h : w.rowIs g T n (rowU (putL o k ps))) (hk : k + ps.length < o.length) (z : Nat) :
    (w.setCell ⟨g, k + ps.length, none⟩ (.int .u32 (z : Nat))).rowIs g T n (rowU (putL o k (ps ++ [z]))) := by
  have h1 := rowU_set h (k + ps.length) z (by rw [put_len (by omega)]; exact hk)
  have e : (putL o k ps).set (k + ps.length) z = putL o k (ps ++ [z]) := by
    unfold putL
    have hl : (o.take k ++ ps).length = k + ps.length := by rw [List.length_append, List.length_take]; omega
    rw [List.set_append, if_neg (by omega), hl, Nat.sub_self, List.drop_eq_getElem_cons hk, List.set_cons_zero, List.length_append, List.length_singleton]
    simp [Nat.add_assoc]
  rwa [e] at h1
theorem put_dg {o ps : List Nat} {k j : Nat} (hk : k + ps.length ≤ o.length) (hj : k + ps.length ≤ j) : dg (putL o k ps) j = dg o j := by
  unfold putL dg
  have hl : (o.take k ++ ps).length = k + ps.length := by rw [List.length_append, List.length_take]; omega
  rw [List.getElem?_append_right (by omega), hl, List.getElem?_drop, show k + ps.length + (j - (k + ps.length)) = j by omega]
theorem gr_refl (w : World) (r : Option Nat) : w.grownBy w r := ⟨rfl, rfl, rfl, Nat.le_refl _, fun _ _ _ => rfl⟩
theorem gr_set {a w : World} {r : Option Nat} (h : a.grownBy w r) {p : Addr} (hp : r = some p.block) (v : Value) : a.grownBy (w.setCell p v) r := ⟨h.os, h.tape, h.output, by rw [size_setCell]; exact h.size, fun k hk hne => (Below.heap_setCell _ _ _ _ (fun e => hne (by rw [hp, e]))).trans (h.block k hk hne)⟩
theorem put_nil (o : List Nat) (k : Nat) : putL o k [] = o := by simp [putL]

set_option maxRecDepth 100000 in
set_option maxHeartbeats 4000000 in
theorem div_off {S : Nat → Prop} {w : World} {g k n cap q : Nat} {o vs : List Nat} (vv : Value) (hrow : w.rowIs g 119 cap (rowU o)) (ho : o.length ≤ cap) (hol : ∀ z ∈ o, z < B32) (hkn : k + n < o.length) (hv : U32s S w vv vs) (hS : ∀ j, S j → j < w.heap.size ∧ j ≠ g) (lv : vs.length = n) (hq : q < B32) (hcap : cap ≤ 9223372036854775807) :
    Calls Tryz.prog 139 #[.slice (some ⟨g, k, none⟩) (n + 1) (n + 1), vv, .int .u64 (q : Nat)] w fun e w' => ∃ (ps : List Nat) (b : Nat), e = .returned (.bool (decide (b = 1))) ∧ b ≤ 1 ∧ ps.length = n + 1 ∧ (∀ z ∈ ps, z < B32) ∧ val B32 ps + q * val B32 vs = val B32 (partL o k n) + B32 ^ (n + 1) * b ∧
      w'.rowIs g 119 cap (rowU (putL o k ps)) ∧ w.grownBy w' (some g) ∧ w'.heap.size = w.heap.size := by
  have hnb : n + 1 ≤ 9223372036854775807 := by omega
  have HROW := hid hrow
  have HOL := hid hol
  have HKN := hid (And.intro ho hkn)
  have HV := hid hv
  have HQ := hid hq
  have hlv := hv.len_le
  obtain ⟨av, cv, rfl⟩ := hv.form
  rw [lv] at HV hlv ⊢
  have HLV := hid lv
  clear hrow hol hv ho hq lv
  go_enter Tryz.func139, Tryz.ntmps139
  go_wp2
  go_loopw [7, 8, 14] (fun s7 s8 s14 wr => ∃ (i c b : Nat) (ps : List Nat), s7 = .int .u64 (c : Nat) ∧ s8 = .int .u64 (b : Nat) ∧ s14 = .int .i64 (i : Nat) ∧ i ≤ n + 1 ∧ Hid (c < 4294967296 ∧ b ≤ 1 ∧ (n < i → c = 0) ∧ ps.length = i ∧ (∀ z ∈ ps, z < B32) ∧ val B32 ps + q * val B32 (vs.take i) = val B32 ((partL o k n).take i) + B32 ^ i * (b + c)) ∧
    wr.rowIs g 119 cap (rowU (putL o k ps)) ∧ w.grownBy wr (some g) ∧ wr.heap.size = w.heap.size) (fun _ _ s14 _ => n + 1 - (intOf s14).toNat)
  case atStart => exact ⟨0, 0, 0, [], rfl, rfl, rfl, Nat.zero_le _, hid ⟨by decide, by decide, fun h => rfl, rfl, by simp, by simp [val]⟩, by rw [put_nil]; exact HROW.out, gr_refl _ _, rfl⟩
  case round =>
    obtain ⟨i, c, b, ps, rfl, rfl, rfl, hi, HI, hrow, hgb, hsz⟩ := hrel
    have HR := hid hrow
    have HG := hid (And.intro hgb hsz)
    clear hrow hgb hsz
    by_cases hlt : i < n + 1
    · obtain ⟨u, hu⟩ : ∃ u, u = dg (partL o k n) i := ⟨_, rfl⟩
      have hul : u < 4294967296 := by rw [hu, part_dg hlt]; exact dg_lt (by decide) HOL.out _
      have hcu : wr.cell? ⟨g, k + i, none⟩ = some (.int .u32 (u : Nat)) := by
        have h1 := HR.out.cell (i := k + i) (by have := HKN.out; omega)
        rw [h1, hu, part_dg hlt]
        have h2 := put_dg (o := o) (ps := ps) (k := k) (j := k + i) (by have := HI.out.2.2.2.1; omega) (by have := HI.out.2.2.2.1; omega)
        show some (Value.int .u32 (dg (putL o k ps) (k + i) : Nat)) = _
        rw [h2]
      have hfu := HR.out.frozen (k + i)
      have HU := hid hu
      by_cases hin : i < n
      · obtain ⟨x, hx⟩ := some_of_lt (l := vs) (j := i) (by rw [HLV.out]; exact hin)
        obtain ⟨b1, o1, rfl, -, hn1, hm1, -, hxl, hcx⟩ := (HV.out.to (S' := S) (fun j hj => HG.out.1.block j (hS j hj).1 (fun e => (hS j hj).2 (Option.some.inj e))) (fun _ h => h)).cellAt hx
        have HX := hid (dg_some hx)
        obtain ⟨P, hP⟩ : ∃ P : Nat, P = q * x := ⟨_, rfl⟩
        have hPl : P ≤ 4294967295 * 4294967295 := by rw [hP]; exact Nat.mul_le_mul (by have h : q < 4294967296 := HQ.out; omega) (by omega)
        have hw1 : IntKind.u64.wrap ((q : Int) * (x : Int)) = (P : Int) := by
          have e : (q : Int) * (x : Int) = ((q * x : Nat) : Int) := (Int.natCast_mul q x).symm
          rw [e, ← hP]
          exact wrap_nat64 (by omega)
        obtain ⟨t, ht⟩ : ∃ t : Nat, t = c + P := ⟨_, rfl⟩
        have htl : t < 18446744073709551616 := by have := HI.out.1; omega
        have hw2 : IntKind.u64.wrap ((c : Int) + (P : Int)) = (t : Int) := by rw [← Int.natCast_add, ← ht]; exact wrap_nat64 htl
        obtain ⟨lo, hlo⟩ : ∃ lo : Nat, lo = t % 4294967296 := ⟨_, rfl⟩
        have hand : bits .and .u64 (t : Int) 4294967295 = (lo : Int) := by rw [and_low t htl, hlo]
        have HP := hid hP
        have HT := hid ht
        have HLO := hid hlo
        have HTL := hid htl
        have HUL := hid hul
        clear hx hu hP hPl ht hlo htl hul
        obtain ⟨b', d, hb', hd, e1, e2, hbal⟩ : ∃ b' d : Nat, b' ≤ 1 ∧ d < 4294967296 ∧ IntKind.u64.wrap (IntKind.u64.wrap (IntKind.u64.wrap (u : Int) - (lo : Int)) - (b : Int)) / 9223372036854775808 = (b' : Int) ∧ IntKind.u64.wrap (IntKind.u64.wrap (IntKind.u64.wrap (u : Int) - (lo : Int)) - (b : Int)) % 4294967296 = (d : Int) ∧ b + lo + d = u + 4294967296 * b' := by
          have h1 := HUL.out
          have h2 := HI.out.2.1
          have h3 : lo < 4294967296 := by rw [HLO.out]; exact Nat.mod_lt _ (by decide)
          simp only [IntKind.wrap_u64]
          by_cases hs : lo + b ≤ u
          · exact ⟨0, u - lo - b, by omega, by omega, by omega, by omega, by omega⟩
          · exact ⟨1, u + 4294967296 - lo - b, by omega, by omega, by omega, by omega, by omega⟩
        go_wp2
        go_roundw
        case rel =>
          refine ⟨i + 1, t / 4294967296, b', ps ++ [d], congrArg (Value.int .u64) (by omega), rfl, by go_num, by omega, hid ⟨by have h1 := HTL.out; omega, hb', (fun h => by omega), by simp [HI.out.2.2.2.1], ?_, ?_⟩, ?_, gr_set HG.out.1 rfl _, by rw [size_setCell]; exact HG.out.2⟩
          · intro z hz
            rcases List.mem_append.1 hz with h | h
            · exact HI.out.2.2.2.2.1 z h
            · rw [List.mem_singleton.1 h]
              exact hd
          · exact off_step HI.out.2.2.2.1 HI.out.2.2.2.2.2 HX.out HU.out.symm (by
              have h1 := HP.out
              have h2 := HT.out
              have h3 := HLO.out
              show b + c + q * x + d = u + 4294967296 * (b' + t / 4294967296)
              omega)
          · have h1 := put_snoc HR.out (by have h2 := HI.out.2.2.2.1; have h3 := HKN.out; omega) d
            rwa [HI.out.2.2.2.1] at h1
        case measure => simp only [intOf]; omega
      · obtain rfl : i = n := by omega
        obtain ⟨t, ht⟩ : ∃ t : Nat, t = c := ⟨_, rfl⟩
        obtain ⟨lo, hlo⟩ : ∃ lo : Nat, lo = t % 4294967296 := ⟨_, rfl⟩
        have htl : t < 18446744073709551616 := by have := HI.out.1; omega
        have hand : bits .and .u64 (c : Int) 4294967295 = (lo : Int) := by rw [← ht, and_low t htl, hlo]
        have HX : Hid (dg vs i = 0) := hid (dg_out (by rw [HLV.out]; exact Nat.le_refl _))
        have hc64 : IntKind.u64.wrap (c : Int) = (c : Int) := wrap_nat64 (by have := HI.out.1; omega)
        have HT := hid ht
        have HLO := hid hlo
        have HTL := hid htl
        have HUL := hid hul
        have HC0 : Hid (t / 4294967296 = 0) := hid (by have := HI.out.1; omega)
        clear hu ht hlo htl hul
        obtain ⟨b', d, hb', hd, e1, e2, hbal⟩ : ∃ b' d : Nat, b' ≤ 1 ∧ d < 4294967296 ∧ IntKind.u64.wrap (IntKind.u64.wrap (IntKind.u64.wrap (u : Int) - (lo : Int)) - (b : Int)) / 9223372036854775808 = (b' : Int) ∧ IntKind.u64.wrap (IntKind.u64.wrap (IntKind.u64.wrap (u : Int) - (lo : Int)) - (b : Int)) % 4294967296 = (d : Int) ∧ b + lo + d = u + 4294967296 * b' := by
          have h1 := HUL.out
          have h2 := HI.out.2.1
          have h3 : lo < 4294967296 := by rw [HLO.out]; exact Nat.mod_lt _ (by decide)
          simp only [IntKind.wrap_u64]
          by_cases hs : lo + b ≤ u
          · exact ⟨0, u - lo - b, by omega, by omega, by omega, by omega, by omega⟩
          · exact ⟨1, u + 4294967296 - lo - b, by omega, by omega, by omega, by omega, by omega⟩
        go_wp2
        go_roundw
        case rel =>
          refine ⟨i + 1, t / 4294967296, b', ps ++ [d], congrArg (Value.int .u64) (by have := HT.out; omega), rfl, by go_num, by omega, hid ⟨by have h1 := HTL.out; omega, hb', (fun h => HC0.out), by simp [HI.out.2.2.2.1], ?_, ?_⟩, ?_, gr_set HG.out.1 rfl _, by rw [size_setCell]; exact HG.out.2⟩
          · intro z hz
            rcases List.mem_append.1 hz with h | h
            · exact HI.out.2.2.2.2.1 z h
            · rw [List.mem_singleton.1 h]
              exact hd
          · exact off_step HI.out.2.2.2.1 HI.out.2.2.2.2.2 HX.out HU.out.symm (by
              have h2 := HT.out
              have h3 := HLO.out
              show b + c + q * 0 + d = u + 4294967296 * (b' + t / 4294967296)
              omega)
          · have h1 := put_snoc HR.out (by have h2 := HI.out.2.2.2.1; have h3 := HKN.out; omega) d
            rwa [HI.out.2.2.2.1] at h1
        case measure => simp only [intOf]; omega
    · obtain rfl : i = n + 1 := by omega
      go_wp2
      all_goals
        go_ret
        obtain ⟨h1, h2, h3, h4, h5, h6⟩ := HI.out
        have hc0 := h3 (by omega)
        rw [hc0, Nat.add_zero, List.take_of_length_le (by rw [HLV.out]; omega), List.take_of_length_le (by rw [part_len HKN.out.2]; exact Nat.le_refl _)] at h6
        refine ⟨ps, b, ?_, h2, h4, h5, h6, HR.out, HG.out⟩
        show Ending.returned (Value.bool ((b : Int) == 1)) = _
        rcases (show b = 0 ∨ b = 1 by omega) with rfl | rfl <;> rfl

set_option maxRecDepth 100000 in
set_option maxHeartbeats 4000000 in
theorem div_on {S : Nat → Prop} {w : World} {g k n cap : Nat} {o vs : List Nat} (vv : Value) (hrow : w.rowIs g 119 cap (rowU o)) (ho : o.length ≤ cap) (hol : ∀ z ∈ o, z < B32) (hkn : k + n < o.length) (hv : U32s S w vv vs) (hS : ∀ j, S j → j < w.heap.size ∧ j ≠ g) (lv : vs.length = n) (hcap : cap ≤ 9223372036854775807) :
    Calls Tryz.prog 140 #[.slice (some ⟨g, k, none⟩) (n + 1) (n + 1), vv] w fun e w' => ∃ ps : List Nat, e = .returned (.tuple #[]) ∧ ps.length = n + 1 ∧ (∀ z ∈ ps, z < B32) ∧ val B32 ps = (val B32 (partL o k n) + val B32 vs) % B32 ^ (n + 1) ∧
      w'.rowIs g 119 cap (rowU (putL o k ps)) ∧ w.grownBy w' (some g) ∧ w'.heap.size = w.heap.size := by
  have hnb : n + 1 ≤ 9223372036854775807 := by omega
  have HROW := hid hrow
  have HOL := hid hol
  have HKN := hid (And.intro ho hkn)
  have HV := hid hv
  have hlv := hv.len_le
  obtain ⟨av, cv, rfl⟩ := hv.form
  rw [lv] at HV hlv ⊢
  have HLV := hid lv
  clear hrow hol hv ho lv
  go_enter Tryz.func140, Tryz.ntmps140
  go_wp2
  go_loopw [4, 8] (fun s4 s8 wr => ∃ (i c : Nat) (ps : List Nat), s4 = .int .u64 (c : Nat) ∧ s8 = .int .i64 (i : Nat) ∧ i ≤ n + 1 ∧ Hid (c ≤ 1 ∧ ps.length = i ∧ (∀ z ∈ ps, z < B32) ∧ val B32 ps + B32 ^ i * c = val B32 ((partL o k n).take i) + val B32 (vs.take i)) ∧
    wr.rowIs g 119 cap (rowU (putL o k ps)) ∧ w.grownBy wr (some g) ∧ wr.heap.size = w.heap.size) (fun _ s8 _ => n + 1 - (intOf s8).toNat)
  case atStart => exact ⟨0, 0, [], rfl, rfl, Nat.zero_le _, hid ⟨by decide, rfl, by simp, by simp [val]⟩, by rw [put_nil]; exact HROW.out, gr_refl _ _, rfl⟩
  case round =>
    obtain ⟨i, c, ps, rfl, rfl, hi, HI, hrow, hgb, hsz⟩ := hrel
    have HR := hid hrow
    have HG := hid (And.intro hgb hsz)
    clear hrow hgb hsz
    by_cases hlt : i < n + 1
    · obtain ⟨u, hu⟩ : ∃ u, u = dg (partL o k n) i := ⟨_, rfl⟩
      have hul : u < 4294967296 := by rw [hu, part_dg hlt]; exact dg_lt (by decide) HOL.out _
      have hcu : wr.cell? ⟨g, k + i, none⟩ = some (.int .u32 (u : Nat)) := by
        have h1 := HR.out.cell (i := k + i) (by have := HKN.out; omega)
        rw [h1, hu, part_dg hlt]
        have h2 := put_dg (o := o) (ps := ps) (k := k) (j := k + i) (by have := HI.out.2.1; omega) (by have := HI.out.2.1; omega)
        show some (Value.int .u32 (dg (putL o k ps) (k + i) : Nat)) = _
        rw [h2]
      have hfu := HR.out.frozen (k + i)
      have HU := hid hu
      have HUL := hid hul
      obtain ⟨P, hP⟩ : ∃ P : Nat, P = c + u := ⟨_, rfl⟩
      have hw1 : IntKind.u64.wrap ((c : Int) + (u : Int)) = (P : Int) := by rw [← Int.natCast_add, ← hP]; exact wrap_nat64 (by have := HI.out.1; omega)
      have hu64 : IntKind.u64.wrap (u : Int) = (u : Int) := wrap_nat64 (by omega)
      have HP := hid hP
      clear hu hul hP
      by_cases hin : i < n
      · obtain ⟨x, hx⟩ := some_of_lt (l := vs) (j := i) (by rw [HLV.out]; exact hin)
        obtain ⟨b1, o1, rfl, -, hn1, hm1, -, hxl, hcx⟩ := (HV.out.to (S' := S) (fun j hj => HG.out.1.block j (hS j hj).1 (fun e => (hS j hj).2 (Option.some.inj e))) (fun _ h => h)).cellAt hx
        have HX := hid (dg_some hx)
        have hx64 : IntKind.u64.wrap (x : Int) = (x : Int) := wrap_nat64 (by omega)
        obtain ⟨t, ht⟩ : ∃ t : Nat, t = P + x := ⟨_, rfl⟩
        have htl : t < 18446744073709551616 := by have h1 := HI.out.1; have h2 := HUL.out; have h3 := HP.out; omega
        have hw2 : IntKind.u64.wrap ((P : Int) + (x : Int)) = (t : Int) := by rw [← Int.natCast_add, ← ht]; exact wrap_nat64 htl
        have HT := hid ht
        have HXL := hid hxl
        clear hx hxl ht htl
        go_wp2
        go_roundw
        case rel =>
          refine ⟨i + 1, t / 4294967296, ps ++ [t % 4294967296], rfl, by go_num, by omega, hid ⟨by have h1 := HI.out.1; have h2 := HUL.out; have h3 := HP.out; have h4 := HT.out; have h5 := HXL.out; omega, by simp [HI.out.2.1], ?_, ?_⟩, ?_, gr_set HG.out.1 rfl _, by rw [size_setCell]; exact HG.out.2⟩
          · intro z hz
            rcases List.mem_append.1 hz with h | h
            · exact HI.out.2.2.1 z h
            · rw [List.mem_singleton.1 h]
              exact Nat.mod_lt _ (by decide)
          · have h1 := on_step (B := B32) HI.out.2.1 HI.out.2.2.2 HX.out HU.out.symm
            have h2 : c + u + x = t := by rw [HT.out, HP.out]
            rwa [h2] at h1
          · have h1 := put_snoc HR.out (by have h2 := HI.out.2.1; have h3 := HKN.out; omega) (t % 4294967296)
            rwa [HI.out.2.1] at h1
        case measure => simp only [intOf]; omega
      · obtain rfl : i = n := by omega
        have HX : Hid (dg vs i = 0) := hid (dg_out (by rw [HLV.out]; exact Nat.le_refl _))
        obtain ⟨t, ht⟩ : ∃ t : Nat, t = P := ⟨_, rfl⟩
        have HT : Hid (t = P + 0) := hid ht
        have hc64 : IntKind.u64.wrap (P : Int) = (P : Int) := wrap_nat64 (by have h1 := HI.out.1; have h2 := HUL.out; have h3 := HP.out; omega)
        subst ht
        go_wp2
        go_roundw
        case rel =>
          refine ⟨i + 1, t / 4294967296, ps ++ [t % 4294967296], rfl, by go_num, by omega, hid ⟨by have h1 := HI.out.1; have h2 := HUL.out; have h3 := HP.out; have h4 := HT.out; omega, by simp [HI.out.2.1], ?_, ?_⟩, ?_, gr_set HG.out.1 rfl _, by rw [size_setCell]; exact HG.out.2⟩
          · intro z hz
            rcases List.mem_append.1 hz with h | h
            · exact HI.out.2.2.1 z h
            · rw [List.mem_singleton.1 h]
              exact Nat.mod_lt _ (by decide)
          · have h1 := on_step (B := B32) HI.out.2.1 HI.out.2.2.2 HX.out HU.out.symm
            have h2 : c + u + 0 = t := by rw [HT.out, HP.out]
            rwa [h2] at h1
          · have h1 := put_snoc HR.out (by have h2 := HI.out.2.1; have h3 := HKN.out; omega) (t % 4294967296)
            rwa [HI.out.2.1] at h1
        case measure => simp only [intOf]; omega
    · obtain rfl : i = n + 1 := by omega
      go_wp2
      all_goals
        first | go_end0 | refine bodyPost_ret (results_none rfl _ _ _) rfl ?_
        obtain ⟨h1, h2, h3, h4⟩ := HI.out
        rw [List.take_of_length_le (by rw [part_len HKN.out.2]; exact Nat.le_refl _), List.take_of_length_le (by rw [HLV.out]; omega)] at h4
        have h5 := val_lt (B := B32) ps h3
        rw [h2] at h5
        refine ⟨ps, rfl, h2, h3, ?_, HR.out, HG.out⟩
        rw [← h4, Nat.add_mul_mod_self_left, Nat.mod_eq_of_lt h5]
end Go.Proofs.YtbhdgdmelepnhaaGreat

namespace Go.Proofs.YtbhdgdmelepnhaaGreat
open Go.RowKit

theorem nat_may (s : Nat) (hs : s < 32) (w : World) : Calls Tryz.prog 150 #[.int .i64 (s : Nat)] w fun e w' => e = .returned (.bool true) ∧ w = w' := by
  have h1 : (0 : Int) ≤ (s : Int) := by omega
  have h2 : (s : Int) ≤ 31 := by omega
  go_enter Tryz.func150, Tryz.ntmps150
  go_wp2
  all_goals
    go_ret
    exact ⟨congrArg (fun b => Ending.returned (Value.bool b)) (decide_eq_true (by omega)), rfl⟩
theorem two_split {s : Nat} (hs : s < 32) : 2 ^ (32 - s) * 2 ^ s = B32 := by
  rw [← Nat.pow_add, show 32 - s + s = 32 by omega]
theorem shl_limb {x s c : Nat} (hx : x < B32) (hs : s < 32) (hc : c < 2 ^ s) : c + x * 2 ^ s % B32 < B32 ∧ x * 2 ^ s / B32 < 2 ^ s ∧ x * 2 ^ s % B32 % 2 ^ s = 0 := by
  have hB := two_split hs
  have hP : 0 < 2 ^ s := Nat.pow_pos (by decide)
  rw [← hB, Nat.mul_mod_mul_right, Nat.mul_div_mul_right _ _ hP]
  have hK : x % 2 ^ (32 - s) < 2 ^ (32 - s) := Nat.mod_lt _ (Nat.pow_pos (by decide))
  refine ⟨?_, ?_, Nat.mul_mod_left _ _⟩
  · have h1 : (x % 2 ^ (32 - s) + 1) * 2 ^ s ≤ 2 ^ (32 - s) * 2 ^ s := Nat.mul_le_mul_right _ hK
    rw [Nat.add_mul, Nat.one_mul] at h1
    omega
  · refine Nat.div_lt_of_lt_mul ?_
    rw [hB]
    exact hx
theorem or_low (s c m : Nat) (hs : s < 32) (hc : c < 2 ^ s) (hm : m < B32) (hd : m % 2 ^ s = 0) : bits .or .u32 (c : Int) (m : Int) = ((c + m : Nat) : Int) := by
  have hk : ∀ n : Int, 0 ≤ n → n < 2 ^ 32 → IntKind.u32.wrap n = n := fun n h0 h1 => by rw [IntKind.wrap_u32]; omega
  have hc32 : c < 2 ^ 32 := Nat.lt_of_lt_of_le hc (Nat.pow_le_pow_right (by decide) (by omega))
  have hm32 : m < 2 ^ 32 := hm
  rw [(bits_nat .u32 32 (by decide) hk c m hc32 hm32).2, Nat.or_comm]
  have h := bits_join .u32 32 (by decide) hk s (m : Int) (c : Int) (by omega) (by exact_mod_cast hd) (by exact_mod_cast hm32) (by omega) (by exact_mod_cast hc) (by exact_mod_cast hc32)
  rw [(bits_nat .u32 32 (by decide) hk m c hm32 hc32).2] at h
  rw [h]
  omega
theorem rowU_same {o o' : List Nat} (h : ∀ j, dg o j = dg o' j) : rowU o = rowU o' := funext fun j => by unfold rowU; rw [h]
theorem dg_snoc (o : List Nat) (z j : Nat) : dg (o ++ [z]) j = if j < o.length then dg o j else if j = o.length then z else 0 := by
  unfold dg
  rw [List.getElem?_append]
  split
  · rfl
  · rename_i h
    split
    · rename_i h2
      rw [h2, Nat.sub_self]
      rfl
    · rename_i h2
      rw [List.getElem?_eq_none (by simp; omega)]
      rfl
theorem dg_val {B : Nat} (hB : 0 < B) (l : List Nat) (hl : ∀ d ∈ l, d < B) (j : Nat) : dg l j = val B l / B ^ j % B := by
  induction l generalizing j with
  | nil => simp [dg, val]
  | cons d l ih =>
    have hd := hl d (List.mem_cons_self ..)
    cases j with
    | zero =>
      show d = (d + B * val B l) / B ^ 0 % B
      rw [Nat.pow_zero, Nat.div_one, Nat.add_mul_mod_self_left, Nat.mod_eq_of_lt hd]
    | succ j =>
      show dg l j = (d + B * val B l) / B ^ (j + 1) % B
      rw [ih (fun z hz => hl z (List.mem_cons_of_mem _ hz)) j, Nat.pow_succ, Nat.mul_comm (B ^ j) B, ← Nat.div_div_eq_div_mul, Nat.add_mul_div_left _ _ hB, Nat.div_eq_of_lt hd, Nat.zero_add]
theorem dg_rep {o : List Nat} (ho : ∀ z ∈ o, z < B32) (n : Nat) (hn : val B32 o = n) (j : Nat) : dg o j = dg (rep B32 n) j := by
  rw [dg_val (by decide) _ ho, dg_val (by decide) _ (rep_lt two_le_B32 n), val_rep two_le_B32, hn]
theorem trim_len (zs : List Nat) (hl : ∀ z ∈ zs, z < B32) {k : Nat} (ht : trimTo zs k = trimTo zs zs.length) : trimTo zs k = (rep B32 (val B32 zs)).length := by
  rw [← trimL_rep two_le_B32 zs hl, ← List.take_length (l := zs), ← trimTo_take zs _ (Nat.le_refl _), List.take_length, List.length_take, ht]
  have := trimTo_le zs zs.length
  omega
set_option maxRecDepth 100000 in
set_option maxHeartbeats 1000000 in
/-- what is cut off at the end leaves the place -/
theorem nat_short_in {S : Nat → Prop} (a : Option Addr) (cap : Nat) (zs : List Nat) (w : World) (h : U32s S w (.slice a zs.length cap) zs) :
    Calls Tryz.prog 121 #[.slice a zs.length cap] w fun e w' => e = .returned (.slice a (rep B32 (val B32 zs)).length cap) ∧ w = w' := by
  have hl := h.len_le
  have H := hid h
  clear h
  go_enter Tryz.func121, Tryz.ntmps121
  go_wp2
  go_loop [0] (fun x => ∃ k : Nat, k ≤ zs.length ∧ x = .slice a k cap ∧ trimTo zs k = trimTo zs zs.length) (fun x => sliceLen x)
  case atStart => exact ⟨zs.length, Nat.le_refl _, rfl, rfl⟩
  case round =>
    obtain ⟨k, hk, rfl, ht⟩ := hrel
    cases k with
    | zero =>
      have HT := hid ht
      clear ht
      go_wp2
      all_goals
        go_ret
        refine ⟨?_, rfl⟩
        rw [← trim_len zs H.out.lt HT.out]
        rfl
    | succ k =>
      obtain ⟨z, hz⟩ := some_of_lt (show k < zs.length by omega)
      obtain ⟨b, off, cap', hv, hcap, hmax, hzb, hcell⟩ := H.out.at hz
      obtain ⟨rfl, -, rfl⟩ : a = some ⟨b, off, none⟩ ∧ True ∧ cap = cap' := by simpa using hv
      have HT := hid ht
      have HZ := hid hz
      clear ht hz hv
      by_cases h0 : z = 0
      · have hb : ((z : Int) == 0) = true := by simpa using h0
        have H0 := hid h0
        clear h0
        go_wp2
        go_round
        case rel => exact ⟨k, by omega, rfl, by rw [← HT.out, trimTo, HZ.out, H0.out, if_pos rfl]⟩
        case measure => simp only [sliceLen]; omega
      · have hb : ((z : Int) == 0) = false := by simpa using h0
        have H0 := hid h0
        clear h0
        go_wp2
        all_goals
          go_ret
          refine ⟨?_, rfl⟩
          have h2 : trimTo zs (k + 1) = k + 1 := by rw [trimTo, HZ.out, if_neg (by simpa using H0.out)]
          rw [← trim_len zs H.out.lt HT.out, h2]
          rfl
set_option maxRecDepth 100000 in
set_option maxHeartbeats 4000000 in
/-- the shifted limbs lie in a row of their own, of one limb more -/
theorem nat_shl {S : Nat → Prop} (v : Value) (zs : List Nat) (s : Nat) (w : World) (h : U32s S w v zs) (hS : ∀ k, S k → k < w.heap.size) (hr : zs.length ≤ 1000000000000) (hs : s < 32) :
    Calls Tryz.prog 137 #[v, .int .i64 (s : Nat)] w fun e w' => ∃ g, e = .returned (.tuple #[.slice (some ⟨g, 0, none⟩) (rep B32 (val B32 zs * 2 ^ s)).length ((rep B32 (val B32 zs)).length + 1), .int .i64 0]) ∧ w.heap.size ≤ g ∧ g < w'.heap.size ∧
      w'.rowIs g 119 ((rep B32 (val B32 zs)).length + 1) (rowU (rep B32 (val B32 zs * 2 ^ s))) ∧ Ext w w' := by
  have hle : (rep B32 (val B32 zs)).length ≤ zs.length := rep_len_le two_le_B32 _ _ (val_lt zs h.lt)
  have H := hid h
  obtain ⟨a, cap, rfl⟩ := h.form
  clear h
  have CM := hid (nat_may s hs w)
  go_enter Tryz.func137, Tryz.ntmps137
  go_wp2_with fail
  refine CM.out.mono ?_
  rintro e w1 ⟨rfl, rfl⟩
  go_wp2_with fail
  refine (nat_short _ zs _ H.out).mono ?_
  rintro e w' ⟨v', rfl, hu, rfl⟩
  have hx1 : ((s : Int)).tdiv 32 = 0 := by rw [Int.tdiv_eq_ediv_of_nonneg (by omega)]; omega
  have hx2 : ((s : Int)).tmod 32 = (s : Int) := by rw [Int.tmod_eq_emod_of_nonneg (by omega)]; omega
  obtain ⟨L, hL⟩ : ∃ L, L = (rep B32 (val B32 zs)).length := ⟨_, rfl⟩
  have HU := hid hu
  obtain ⟨a', c', rfl⟩ := hu.form
  rw [← hL] at HU hle ⊢
  have hmk := run_make_row' (P := Tryz.prog) 24 119 (.int .u32 0) 4 Tryz.underlying24 Tryz.infoU32 rfl .i64 .i64 (L + 1) (by omega) (by omega) w
  rw [show ((L + 1 : Nat) : Int) = (L : Int) + 1 by omega] at hmk
  obtain ⟨V, hV⟩ : ∃ V, V = val B32 zs := ⟨_, rfl⟩
  rw [← hV] at HU hL
  have HL := hid hL
  have HLE := hid hle
  have HV := hid hV
  have HZ0 := hid (rowU_zeros w (L + 1) 119)
  have HX0 := hid (Ext.alloc (Ext.refl w) (.cells (madeCells #[.int .u32 0] (L + 1)) 119))
  clear hu hL hV
  go_wp2
  go_loopw [24] (fun s24 wr => ∃ (i c : Nat) (o : List Nat), s24 = .int .i64 (i : Nat) ∧ i ≤ L ∧ Hid (c < 2 ^ s ∧ o.length = i ∧ (∀ z ∈ o, z < B32) ∧ val B32 o + B32 ^ i * c = val B32 ((rep B32 V).take i) * 2 ^ s) ∧
    wr.rowIs w.heap.size 119 (L + 1) (rowU (o ++ [c])) ∧ Ext w wr) (fun s24 _ => L - (intOf s24).toNat)
  case atStart =>
    refine ⟨0, 0, [], rfl, Nat.zero_le _, hid ⟨Nat.pow_pos (by decide), rfl, by simp, by simp [val]⟩, ?_, HX0.out⟩
    have e : rowU ([] ++ [0]) = rowU (List.replicate (L + 1) 0) := rowU_same fun j => by rw [w_dg_zeros, dg_snoc]; simp
    rw [e]
    exact HZ0.out
  case round =>
    obtain ⟨i, c, o, rfl, hi, HI, hrow, hx⟩ := hrel
    have HR := hid hrow
    have HX := hid hx
    by_cases hlt : i < L
    · obtain ⟨x, hx1⟩ := some_of_lt (l := rep B32 V) (j := i) (by rw [← HL.out]; exact hlt)
      obtain ⟨b1, o1, rfl, -, hn1, hm1, -, hxb, hc1⟩ := (HU.out.to (Kept.ext hx hS) (fun _ h => h)).cellAt hx1
      have hc2 : wr.cell? ⟨w.heap.size, i, none⟩ = some (.int .u32 (c : Nat)) := by
        have h1 := hrow.cell (i := i) (by omega)
        rw [h1]
        show some (Value.int .u32 (dg (o ++ [c]) i : Nat)) = _
        rw [dg_snoc, if_neg (by have := HI.out.2.1; omega), if_pos HI.out.2.1.symm]
      have hf2 := hrow.frozen i
      have hc3 : wr.cell? ⟨w.heap.size, i + 1, none⟩ = some (.int .u32 0) := by
        have h1 := hrow.cell (i := i + 1) (by omega)
        rw [h1]
        show some (Value.int .u32 (dg (o ++ [c]) (i + 1) : Nat)) = _
        rw [dg_snoc, if_neg (by have := HI.out.2.1; omega), if_neg (by have := HI.out.2.1; omega)]
        rfl
      have hf3 := hrow.frozen (i + 1)
      obtain ⟨q1, q2, q3⟩ := shl_limb hxb hs HI.out.1
      obtain ⟨t, ht⟩ : ∃ t, t = x * 2 ^ s := ⟨_, rfl⟩
      rw [← ht] at q1 q2 q3
      have htl : t < 18446744073709551616 := by
        have h1 : x * 2 ^ s < 4294967296 * 2 ^ s := Nat.mul_lt_mul_of_pos_right hxb (Nat.pow_pos (by decide))
        have h2 : 2 ^ s < 2 ^ 32 := Nat.pow_lt_pow_right (by decide) hs
        have h3 : (2 : Nat) ^ 32 = 4294967296 := by decide
        omega
      have hsh : IntKind.u64.wrap ((x : Int) * 2 ^ s) = (t : Int) := by
        have e : (x : Int) * 2 ^ s = ((x * 2 ^ s : Nat) : Int) := by push_cast; rfl
        rw [e, ← ht]
        exact wrap_nat64 htl
      obtain ⟨lo, hlo⟩ : ∃ lo, lo = t % B32 := ⟨_, rfl⟩
      obtain ⟨h, hh⟩ : ∃ h, h = t / B32 := ⟨_, rfl⟩
      rw [← hlo] at q1 q3
      rw [← hh] at q2
      have hlo' : (t : Int) % 4294967296 = (lo : Int) := by rw [hlo]; rfl
      have hhi' : (t : Int) / 4294967296 = (h : Int) := by rw [hh]; rfl
      have hh2 : (h : Int) % 4294967296 = (h : Int) := by
        have h1 : h < 4294967296 := by rw [hh]; show t / 4294967296 < 4294967296; omega
        omega
      have hor : bits .or .u32 (c : Int) (lo : Int) = ((c + lo : Nat) : Int) := or_low s c lo hs HI.out.1 (by omega) q3
      have HQ := hid (And.intro q1 q2)
      have HT := hid (And.intro ht (And.intro hlo hh))
      have HX1 := hid hx1
      have HXB := hid hxb
      have hx64 : IntKind.u64.wrap (x : Int) = (x : Int) := wrap_nat64 (Nat.lt_trans hxb (by decide))
      clear hrow hx q1 q2 q3 ht hlo hh hx1 htl hxb
      go_wp2
      obtain ⟨HI1, HI2, HI3, HI4⟩ := HI.out
      refine ⟨⟨i + 1, h, o ++ [c + lo], rfl, by omega, hid ⟨HQ.out.2, by simp [HI2], ?_, ?_⟩, ?_, ?_⟩, ?_⟩
      · intro z hz
        rcases List.mem_append.1 hz with h1 | h1
        · exact HI3 z h1
        · rw [List.mem_singleton.1 h1]; exact HQ.out.1
      · rw [val_snoc, HI2, val_take_succ HX1.out, Nat.add_mul, ← HI4, Nat.mul_assoc, ← HT.out.1]
        have h3 : t = lo + B32 * h := by rw [HT.out.2.1, HT.out.2.2]; exact (Nat.mod_add_div t B32).symm
        rw [h3, Nat.pow_succ, Nat.mul_add, Nat.mul_add, Nat.mul_assoc]
        omega
      · have h1 := rowU_set HR.out i (c + lo) (by simp; omega)
        have e : (o ++ [c]).set i (c + lo) = o ++ [c + lo] := by rw [← HI2]; simp
        rw [e] at h1
        have h2 := rowU_snoc h1 h
        have e2 : (o ++ [c + lo]).length = i + 1 := by simp [HI2]
        rw [e2] at h2
        have e3 : ((c + lo : Nat) : Int) = (c : Int) + (lo : Int) := by push_cast; rfl
        rw [e3] at h2
        exact h2
      · exact (HX.out.setCell (Nat.le_refl _) _).setCell (Nat.le_refl _) _
      · simp only [intOf]; omega
    · obtain rfl : i = L := by omega
      obtain ⟨HI1, HI2, HI3, HI4⟩ := HI.out
      have hol : ∀ z ∈ o ++ [c], z < B32 := by
        intro z hz
        rcases List.mem_append.1 hz with h1 | h1
        · exact HI3 z h1
        · rw [List.mem_singleton.1 h1]
          exact Nat.lt_of_lt_of_le HI1 (show 2 ^ s ≤ 2 ^ 32 from Nat.pow_le_pow_right (by decide) (by omega))
      have hval : val B32 (o ++ [c]) = V * 2 ^ s := by
        rw [val_snoc, HI2, HI4, HL.out, List.take_length, val_rep two_le_B32]
      have hu : U32s (fun k => k = w.heap.size) wr (.slice (some ⟨w.heap.size, 0, none⟩) (o ++ [c]).length (i + 1)) (o ++ [c]) := U32s.of_row hrow (by simp; omega) hol (by omega)
      have CS := hid (nat_short_in _ _ _ _ hu)
      have e2 : (o ++ [c]).length = i + 1 := by simp [HI2]
      rw [e2, hval] at CS
      have HS : Hid (wr.rowIs w.heap.size 119 (i + 1) (rowU (rep B32 (V * 2 ^ s)))) := hid (by
        rw [← rowU_same (dg_rep hol _ hval)]
        exact hrow)
      clear hrow hx HI1 HI2 HI3 HI4 hol hval hu e2
      go_wp2_with fail
      refine CS.out.mono ?_
      rintro e w' ⟨rfl, rfl⟩
      go_wp2
      all_goals
        go_ret2
        have hl := HL.out
        have hs2 := HS.out
        rw [HV.out] at hl hs2
        rw [← hl, ← HV.out]
        rw [← HV.out] at hs2
        exact ⟨_, rfl, Nat.le_refl _, HS.out.lt, hs2, HX.out⟩
end Go.Proofs.YtbhdgdmelepnhaaGreat

namespace Go.Proofs.YtbhdgdmelepnhaaGreat
open Go.RowKit

theorem shr_digit {N s i x y r : Nat} (hs : s < 32) (h : N / B32 ^ i = x + B32 * (y + B32 * r)) : N / 2 ^ s / B32 ^ i % B32 = (x + B32 * y) / 2 ^ s % B32 := by
  have hB := two_split hs
  have hP : 0 < 2 ^ s := Nat.pow_pos (by decide)
  have e : N / 2 ^ s / B32 ^ i = N / B32 ^ i / 2 ^ s := by rw [Nat.div_div_eq_div_mul, Nat.div_div_eq_div_mul, Nat.mul_comm]
  have e2 : x + B32 * (y + B32 * r) = (x + B32 * y) + 2 ^ s * (2 ^ (32 - s) * (B32 * r)) := by
    rw [Nat.mul_add, ← Nat.mul_assoc (2 ^ s), Nat.mul_comm (2 ^ s), hB]
    omega
  rw [e, h, e2, Nat.add_mul_div_left _ _ hP, show 2 ^ (32 - s) * (B32 * r) = B32 * (2 ^ (32 - s) * r) from Nat.mul_left_comm _ _ _, Nat.add_mul_mod_self_left]
theorem shr_next {M i d : Nat} {o : List Nat} (hv : val B32 o = M % B32 ^ i) (ho : o.length = i) (hd : d = M / B32 ^ i % B32) : val B32 (o ++ [d]) = M % B32 ^ (i + 1) := by
  rw [val_snoc, ho, hv, hd, Nat.pow_succ, Nat.mod_mul]
theorem drop_two (l : List Nat) (hl : ∀ z ∈ l, z < B32) (i : Nat) : val B32 l / B32 ^ i = dg l i + B32 * (dg l (i + 1) + B32 * val B32 (l.drop (i + 2))) := by
  rw [← val_drop_dg, ← val_drop_dg]
  have h := val_split (B := B32) l i
  by_cases hi : i ≤ l.length
  · rw [Nat.min_eq_left hi] at h
    have h2 : val B32 (l.take i) < B32 ^ i := by
      have h3 := val_lt (l.take i) (fun z hz => hl z (List.mem_of_mem_take hz))
      rwa [List.length_take, Nat.min_eq_left hi] at h3
    rw [h, Nat.add_mul_div_left _ _ (Nat.pow_pos (by decide)), Nat.div_eq_of_lt h2, Nat.zero_add]
  · rw [List.drop_eq_nil_of_le (by omega)]
    have h3 := val_lt l hl
    have h4 : B32 ^ l.length ≤ B32 ^ i := Nat.pow_le_pow_right (by decide) (by omega)
    rw [Nat.div_eq_of_lt (by omega)]
    rfl

theorem or_high64 (x y : Nat) (hx : x < B32) (hy : y < B32) : bits .or .u64 (x : Int) ((y : Int) * 4294967296) = ((x + B32 * y : Nat) : Int) := by
  have hx64 : x < 2 ^ 64 := Nat.lt_trans hx (by decide)
  have hy64 : y * 4294967296 < 2 ^ 64 := by
    have h : y < 4294967296 := hy
    show y * 4294967296 < 18446744073709551616
    omega
  have e : (y : Int) * 4294967296 = ((y * 4294967296 : Nat) : Int) := by omega
  rw [e, (bits_nat .u64 64 (by decide) wraps_u64' x _ hx64 hy64).2, Nat.or_comm]
  have h := or_limbs y x hy hx
  rw [e, (bits_nat .u64 64 (by decide) wraps_u64' _ x hy64 hx64).2] at h
  rw [h]
  show ((y * 4294967296 + x : Nat) : Int) = ((x + 4294967296 * y : Nat) : Int)
  omega
set_option maxRecDepth 100000 in
set_option maxHeartbeats 4000000 in
theorem nat_shr {S : Nat → Prop} (v : Value) (zs : List Nat) (s : Nat) (w : World) (h : U32s S w v zs) (hS : ∀ k, S k → k < w.heap.size) (hr : zs.length ≤ 1000000000000) (hs : s < 32) :
    Calls Tryz.prog 141 #[v, .int .i64 (s : Nat)] w fun e w' => ∃ v', e = .returned (.tuple #[v', .int .i64 0]) ∧ U32s (New w w') w' v' (rep B32 (val B32 zs / 2 ^ s)) ∧ Ext w w' := by
  have hle : (rep B32 (val B32 zs)).length ≤ zs.length := rep_len_le two_le_B32 _ _ (val_lt zs h.lt)
  have H := hid h
  obtain ⟨a, cap, rfl⟩ := h.form
  clear h
  have CM := hid (nat_may s hs w)
  go_enter Tryz.func141, Tryz.ntmps141
  go_wp2_with fail
  refine CM.out.mono ?_
  rintro e w1 ⟨rfl, rfl⟩
  go_wp2_with fail
  refine (nat_short _ zs _ H.out).mono ?_
  rintro e w' ⟨v', rfl, hu, rfl⟩
  have hx1 : ((s : Int)).tdiv 32 = 0 := by rw [Int.tdiv_eq_ediv_of_nonneg (by omega)]; omega
  have hx2 : ((s : Int)).tmod 32 = (s : Int) := by rw [Int.tmod_eq_emod_of_nonneg (by omega)]; omega
  obtain ⟨L, hL⟩ : ∃ L, L = (rep B32 (val B32 zs)).length := ⟨_, rfl⟩
  have HU := hid hu
  obtain ⟨a', c', rfl⟩ := hu.form
  rw [← hL] at HU hle ⊢
  have hmk := run_make_row' (P := Tryz.prog) 24 119 (.int .u32 0) 4 Tryz.underlying24 Tryz.infoU32 rfl .i64 .i64 L (by omega) (by omega) w
  obtain ⟨V, hV⟩ : ∃ V, V = val B32 zs := ⟨_, rfl⟩
  rw [← hV] at HU hL
  have HL := hid hL
  have HV := hid hV
  have HLE := hid hle
  have HZ0 := hid (rowU_zeros w L 119)
  have HX0 := hid (Ext.alloc (Ext.refl w) (.cells (madeCells #[.int .u32 0] L) 119))
  clear hu hL hV
  go_wp2
  go_loopw [26] (fun s26 wr => ∃ (i : Nat) (o : List Nat), s26 = .int .i64 (i : Nat) ∧ i ≤ L ∧ Hid (o.length = i ∧ (∀ z ∈ o, z < B32) ∧ val B32 o = V / 2 ^ s % B32 ^ i) ∧
    wr.rowIs w.heap.size 119 L (rowU o) ∧ Ext w wr) (fun s26 _ => L - (intOf s26).toNat)
  case atStart =>
    refine ⟨0, [], rfl, Nat.zero_le _, hid ⟨rfl, by simp, by simp [val, Nat.mod_one]⟩, ?_, HX0.out⟩
    have e : rowU [] = rowU (List.replicate L 0) := rowU_same fun j => by rw [w_dg_zeros]; rfl
    rw [e]
    exact HZ0.out
  case round =>
    obtain ⟨i, o, rfl, hi, HI, hrow, hx⟩ := hrel
    have HR := hid hrow
    have HX := hid hx
    by_cases hlt : i < L
    · obtain ⟨x, hx1⟩ := some_of_lt (l := rep B32 V) (j := i) (by rw [← HL.out]; exact hlt)
      obtain ⟨b1, o1, hav, -, hn1, hm1, -, hxb, hc1⟩ := (HU.out.to (Kept.ext hx hS) (fun _ h => h)).cellAt hx1
      have hf2 := hrow.frozen i
      have hc2 : wr.cell? ⟨w.heap.size, i, none⟩ = some (.int .u32 0) := by
        rw [hrow.cell (i := i) hlt]
        show some (Value.int .u32 (dg o i : Nat)) = _
        rw [dg_out (by have := HI.out.1; omega)]
        rfl
      have HX1 := hid hx1
      have HXB := hid hxb
      have HD := hid (drop_two (rep B32 V) (rep_lt two_le_B32 V) i)
      rw [val_rep two_le_B32, dg_some hx1] at HD
      have fin : ∀ t : Nat, t / 2 ^ s % B32 = V / 2 ^ s / B32 ^ i % B32 → (∃ (i_1 : Nat) (o : List Nat), Value.int IntKind.i64 ((i : Int) + 1) = Value.int IntKind.i64 (i_1 : Nat) ∧ i_1 ≤ L ∧
          Hid (o.length = i_1 ∧ (∀ (z : Nat), z ∈ o → z < B32) ∧ val B32 o = V / 2 ^ s % B32 ^ i_1) ∧
            (wr.setCell ⟨w.heap.size, i, none⟩ (Value.int IntKind.u32 ((t : Int) / 2 ^ s % 4294967296))).rowIs w.heap.size 119 L (rowU o) ∧
              Ext w (wr.setCell ⟨w.heap.size, i, none⟩ (Value.int IntKind.u32 ((t : Int) / 2 ^ s % 4294967296)))) ∧
          L - (intOf (Value.int IntKind.i64 ((i : Int) + 1))).toNat < L - (intOf (Value.int IntKind.i64 (i : Int))).toNat := by
        intro t ht
        obtain ⟨HI2, HI3, HI4⟩ := HI.out
        have e : (t : Int) / 2 ^ s % 4294967296 = ((t / 2 ^ s % B32 : Nat) : Int) := by
          have e1 : (t : Int) / 2 ^ s = ((t / 2 ^ s : Nat) : Int) := by push_cast; rfl
          rw [e1]
          show ((t / 2 ^ s : Nat) : Int) % 4294967296 = ((t / 2 ^ s % 4294967296 : Nat) : Int)
          omega
        rw [e]
        refine ⟨⟨i + 1, o ++ [t / 2 ^ s % B32], rfl, by omega, hid ⟨by simp [HI2], ?_, shr_next HI4 HI2 ht⟩, ?_, HX.out.setCell (Nat.le_refl _) _⟩, ?_⟩
        · intro z hz
          rcases List.mem_append.1 hz with h1 | h1
          · exact HI3 z h1
          · rw [List.mem_singleton.1 h1]; exact Nat.mod_lt _ (by decide)
        · have h1 := rowU_snoc HR.out (t / 2 ^ s % B32)
          rw [HI2] at h1
          exact h1
        · simp only [intOf]; omega
      have FIN := hid fin
      clear hrow hx hx1 fin
      subst hav
      by_cases h2 : i + 1 < L
      · obtain ⟨y, hy1⟩ := some_of_lt (l := rep B32 V) (j := i + 1) (by rw [← HL.out]; exact h2)
        obtain ⟨b3, o3, hav, -, -, -, -, hyb, hc3⟩ := (HU.out.to (Kept.ext HX.out hS) (fun _ h => h)).cellAt hy1
        obtain ⟨rfl, rfl⟩ : b1 = b3 ∧ o1 = o3 := by simpa using hav
        have hx64 : IntKind.u64.wrap (x : Int) = (x : Int) := wrap_nat64 (Nat.lt_trans hxb (by decide))
        have hy64 : IntKind.u64.wrap (y : Int) = (y : Int) := wrap_nat64 (Nat.lt_trans hyb (by decide))
        have hor := or_high64 x y hxb hyb
        obtain ⟨t, ht⟩ : ∃ t, t = x + B32 * y := ⟨_, rfl⟩
        rw [← ht] at hor
        have HT := hid ht
        have HY1 := hid hy1
        have HYB := hid hyb
        clear hxb hy1 ht
        go_wp2
        refine FIN.out t ?_
        have hd := HD.out
        rw [dg_some HY1.out] at hd
        rw [shr_digit hs hd, HT.out]
      · have hx64 : IntKind.u64.wrap (x : Int) = (x : Int) := wrap_nat64 (Nat.lt_trans hxb (by decide))
        clear hxb
        go_wp2
        refine FIN.out x ?_
        have hd := HD.out
        rw [dg_out (by have := HL.out; omega)] at hd
        rw [shr_digit hs hd, Nat.mul_zero, Nat.add_zero]
    · obtain rfl : i = L := by omega
      obtain ⟨HI2, HI3, HI4⟩ := HI.out
      have hval : val B32 o = V / 2 ^ s := by
        rw [HI4]
        refine Nat.mod_eq_of_lt (Nat.lt_of_le_of_lt (Nat.div_le_self _ _) ?_)
        have h1 := val_lt (rep B32 V) (rep_lt two_le_B32 V)
        rwa [val_rep two_le_B32, ← HL.out] at h1
      have hu : U32s (fun k => k = w.heap.size) wr (.slice (some ⟨w.heap.size, 0, none⟩) i i) o := by
        have h1 := U32s.of_row hrow (by omega) HI3 (by omega)
        rwa [HI2] at h1
      have CS := hid (nat_short _ _ _ hu)
      rw [hval] at CS
      have HG := hid hrow.lt
      clear hrow hx HI2 HI3 HI4 hval hu
      go_wp2_with fail
      refine CS.out.mono ?_
      rintro e w' ⟨v', rfl, hu, rfl⟩
      have H := hid hu
      clear hu
      go_wp2
      all_goals
        go_ret2
        refine ⟨_, rfl, ?_, HX.out⟩
        rw [← HV.out]
        refine H.out.to (Kept.refl _ _) (fun k hk => ?_)
        subst hk
        exact ⟨Nat.le_refl _, HG.out⟩
end Go.Proofs.YtbhdgdmelepnhaaGreat

namespace Go.Proofs.YtbhdgdmelepnhaaGreat
open Go.RowKit

set_option maxRecDepth 100000 in
set_option maxHeartbeats 1000000 in
/-- a number's own row -/
theorem nat_trim_row {S : Nat → Prop} (v : Value) (zs : List Nat) (w : World) (h : U32s S w v zs) (hS : ∀ k, S k → k < w.heap.size) (hr : zs.length ≤ 50000000000000) :
    Calls Tryz.prog 119 #[v] w fun e w' => ∃ g, e = .returned (.slice (some ⟨g, 0, none⟩) (rep B32 (val B32 zs)).length (rep B32 (val B32 zs)).length) ∧ w.heap.size ≤ g ∧ g < w'.heap.size ∧
      w'.rowIs g 119 (rep B32 (val B32 zs)).length (rowU (rep B32 (val B32 zs))) ∧ Ext w w' := by
  have hle : (rep B32 (val B32 zs)).length ≤ zs.length := rep_len_le two_le_B32 _ _ (val_lt zs h.lt)
  have H := hid h
  obtain ⟨a, cap, rfl⟩ := h.form
  clear h
  have hmk := fun (n : Nat) (hn : n ≤ 50000000000000) (W : World) => run_make_row' (P := Tryz.prog) 24 119 (.int .u32 0) 4 Tryz.underlying24 Tryz.infoU32 rfl .i64 .i64 n (by omega) (by omega) W
  go_enter Tryz.func119, Tryz.ntmps119
  go_wp2_with fail
  refine (nat_short _ zs _ H.out).mono ?_
  rintro e w' ⟨v', rfl, hu, rfl⟩
  generalize hR : rep B32 (val B32 zs) = R at hu hle
  have HR := hid hR
  have HU := hid hu
  obtain ⟨a', c', rfl⟩ := hu.form
  have hmk1 := hmk R.length (by omega) w
  have HA := hid (Ext.alloc (Ext.refl w) (.cells (madeCells #[.int .u32 0] R.length) 119))
  have HUA := hid (HU.out.to (Kept.alloc hS (.cells (madeCells #[.int .u32 0] R.length) 119)) (fun _ h => h))
  have hc' := HU.out.len_le
  clear hR hu hmk
  go_wp2_with (refine wpList_copy_splice (by rfl) (.tmp 9) (.tmp 10) 24 24 (by rfl) 119 Tryz.underlying24 (by kernel_rfl) (some ⟨w.heap.size, 0, none⟩) a' R.length R.length R.length c' (by rfl) (by rfl) w.heap.size 0 (List.replicate R.length (.int .u32 0)) 119 (by rw [heap_alloc_new, made_list]) (R.map uval) (by simp) (fun hp => ⟨rfl, HUA.out.src hp⟩) (by simp) (by intro v hv; obtain ⟨z, _, rfl⟩ := List.mem_map.1 hv; rfl) w.heap.size w HA.out (Nat.le_refl _) ?_; intro w2 hg hb)
  have HG := hid hg
  have HB := hid hb
  clear hg hb
  go_wp2
  go_ret
  rw [HR.out]
  have hg := HG.out.out
  rw [splice_all _ _ (by simp)] at hg
  refine ⟨_, rfl, Nat.le_refl _, (Array.getElem?_eq_some_iff.1 hg).1, ⟨_, hg, by simp, fun i hi => ?_⟩, HB.out⟩
  rw [List.getElem?_toArray, List.getElem?_map, List.getElem?_eq_getElem hi]
  show some (uval R[i]) = some (Value.int .u32 (dg R i : Nat))
  rw [dg_some (List.getElem?_eq_getElem hi)]
  rfl

theorem limb_step {d m r x Q : Nat} {R o : List Nat} (hd : 0 < d) (hm : m < o.length) (hx : dg R m = x) (hq : val B32 (o.drop (m + 1)) = Q) (hr : r < d) (hx2 : x < B32) (h : val B32 (R.drop (m + 1)) = d * Q + r) :
    (r * B32 + x) / d < B32 ∧ val B32 (R.drop m) = d * val B32 ((o.set m ((r * B32 + x) / d)).drop m) + (r * B32 + x) % d := by
  refine ⟨Nat.div_lt_of_lt_mul ?_, ?_⟩
  · have h1 : (r + 1) * B32 ≤ d * B32 := Nat.mul_le_mul_right _ hr
    rw [Nat.add_mul, Nat.one_mul] at h1
    omega
  · rw [val_drop_dg R m, h, hx, val_drop_dg (o.set m _) m]
    have e1 : dg (o.set m ((r * B32 + x) / d)) m = (r * B32 + x) / d := by unfold dg; rw [List.getElem?_set]; simp [hm]
    have e2 : (o.set m ((r * B32 + x) / d)).drop (m + 1) = o.drop (m + 1) := by rw [List.drop_set_of_lt (by omega)]
    rw [e1, e2, hq]
    have e3 := Nat.div_add_mod (r * B32 + x) d
    rw [Nat.mul_add, Nat.mul_add, Nat.mul_left_comm d B32 Q]
    have e4 : B32 * r = r * B32 := Nat.mul_comm _ _
    omega

set_option maxRecDepth 100000 in
set_option maxHeartbeats 4000000 in
theorem div_limb {S : Nat → Prop} (v : Value) (zs : List Nat) (d : Nat) (w : World) (h : U32s S w v zs) (hS : ∀ k, S k → k < w.heap.size) (hr : zs.length ≤ 1000000000000) (hd : 0 < d) (hd2 : d < B32) :
    Calls Tryz.prog 135 #[v, .int .u32 (d : Nat)] w fun e w' => ∃ v', e = .returned (.tuple #[v', .int .u32 (val B32 zs % d : Nat), .int .i64 0]) ∧ U32s (New w w') w' v' (rep B32 (val B32 zs / d)) ∧ Ext w w' := by
  have hle : (rep B32 (val B32 zs)).length ≤ zs.length := rep_len_le two_le_B32 _ _ (val_lt zs h.lt)
  have H := hid h
  clear h
  have hd0 : (d : Int) ≠ 0 := by omega
  have hd64 : IntKind.u64.wrap (d : Int) = (d : Int) := wrap_nat64 (Nat.lt_trans hd2 (by decide))
  have HD := hid (And.intro hd hd2)
  clear hd hd2
  go_enter Tryz.func135, Tryz.ntmps135
  go_wp2_with fail
  refine (nat_trim_row _ zs _ H.out hS (by omega)).mono ?_
  rintro e w1 ⟨g, rfl, hg1, hg2, hrow, hx⟩
  obtain ⟨L, hL⟩ : ∃ L, L = (rep B32 (val B32 zs)).length := ⟨_, rfl⟩
  rw [← hL] at hrow hle ⊢
  obtain ⟨V, hV⟩ : ∃ V, V = val B32 zs := ⟨_, rfl⟩
  rw [← hV] at hrow hL
  have HL := hid hL
  have HV := hid hV
  have HX1 := hid hx
  have HR1 := hid hrow
  have HS1 := hid hx.size
  clear hL hV hx hrow
  go_wp2
  go_loopw [7, 16] (fun s7 s16 wr => ∃ (i r : Nat) (o : List Nat), s7 = .int .u64 (r : Nat) ∧ s16 = .int .i64 (i : Nat) ∧ i ≤ L ∧ Hid (r < d ∧ o.length = L ∧ (∀ z ∈ o, z < B32) ∧ (∀ j, j < L - i → dg o j = dg (rep B32 V) j) ∧ val B32 ((rep B32 V).drop (L - i)) = d * val B32 (o.drop (L - i)) + r) ∧
    wr.rowIs g 119 L (rowU o) ∧ Ext w wr) (fun s7 s16 _ => L - (intOf s16).toNat)
  case atStart =>
    refine ⟨0, 0, rep B32 V, rfl, rfl, Nat.zero_le _, hid ⟨HD.out.1, HL.out.symm, rep_lt two_le_B32 V, fun _ _ => rfl, ?_⟩, HR1.out, HX1.out⟩
    rw [List.drop_eq_nil_of_le (by rw [← HL.out]; omega)]
    rfl
  case round =>
    obtain ⟨i, r, o, rfl, rfl, hi, HI, hrow, hx⟩ := hrel
    have HR := hid hrow
    have HX := hid hx
    by_cases hlt : i < L
    · obtain ⟨m, hm⟩ : ∃ m, m + 1 = L - i := ⟨L - i - 1, by omega⟩
      have hm2 : (L : Int) - 1 - (i : Int) = (m : Int) := by omega
      obtain ⟨x, hx1⟩ := some_of_lt (l := rep B32 V) (j := m) (by rw [← HL.out]; omega)
      have hxd := dg_some hx1
      have hxb : x < 4294967296 := rep_lt two_le_B32 V x (List.mem_of_getElem? hx1)
      have hc1 : wr.cell? ⟨g, m, none⟩ = some (.int .u32 (x : Nat)) := by
        rw [hrow.cell (i := m) (by omega)]
        show some (Value.int .u32 (dg o m : Nat)) = _
        rw [HI.out.2.2.2.1 m (by omega), hxd]
      have hf1 := hrow.frozen m
      have hx64 : IntKind.u64.wrap (x : Int) = (x : Int) := wrap_nat64 (Nat.lt_trans hxb (by decide))
      have hrb : r < 4294967296 := Nat.lt_trans HI.out.1 HD.out.2
      have hor := or_limbs r x hrb hxb
      obtain ⟨t, ht⟩ : ∃ t, t = r * 4294967296 + x := ⟨_, rfl⟩
      rw [← ht] at hor
      have hsh : IntKind.u64.wrap ((r : Int) * 4294967296) = (r : Int) * 4294967296 := by rw [IntKind.wrap_u64]; omega
      have HT := hid ht
      have HXD := hid hxd
      have HXB := hid hxb
      have hi0 : 0 ≤ (L : Int) - 1 - (i : Int) := by omega
      have hml : (m : Int) < (L : Int) := by omega
      clear hrow hx hx1 hxd hxb hrb ht
      go_wp2
      obtain ⟨HI1, HI2, HI3, HI4, HI5⟩ := HI.out
      rw [← hm] at HI5
      obtain ⟨q1, q2⟩ := limb_step (o := o) HD.out.1 (by omega) HXD.out rfl HI1 HXB.out HI5
      have ht := HT.out
      have q1' : t / d < 4294967296 := by rw [ht]; exact q1
      have e1 : IntKind.u64.wrap ((t : Int) / (d : Int)) % 4294967296 = ((t / d : Nat) : Int) := by
        rw [← Int.natCast_ediv, wrap_nat64 (Nat.lt_trans q1' (by decide))]
        generalize t / d = q at q1'
        omega
      rw [e1]
      refine ⟨⟨i + 1, t % d, o.set m (t / d), by rw [Int.natCast_emod], rfl, by omega, hid ⟨Nat.mod_lt _ HD.out.1, by simp [HI2], ?_, ?_, ?_⟩, rowU_set HR.out m (t / d) (by omega), HX.out.setCell hg1 _⟩, ?_⟩
      · intro z hz
        rcases List.mem_or_eq_of_mem_set hz with h1 | h1
        · exact HI3 z h1
        · rw [h1]; exact q1'
      · intro j hj
        rw [dg_set_ne (by omega), HI4 j (by omega)]
      · rw [show L - (i + 1) = m by omega, ht]
        exact q2
      · simp only [intOf]; omega
    · obtain rfl : i = L := by omega
      obtain ⟨HI1, HI2, HI3, HI4, HI5⟩ := HI.out
      rw [Nat.sub_self, List.drop_zero, List.drop_zero, val_rep two_le_B32] at HI5
      have hq : val B32 o = V / d := by rw [HI5, Nat.mul_add_div HD.out.1, Nat.div_eq_of_lt HI1, Nat.add_zero]
      have hm : r = V % d := by rw [HI5, Nat.mul_add_mod, Nat.mod_eq_of_lt HI1]
      have hu : U32s (fun k => k = g) wr (.slice (some ⟨g, 0, none⟩) i i) o := by
        have h1 := U32s.of_row hrow (by omega) HI3 (by omega)
        rwa [HI2] at h1
      have CS := hid (nat_trim _ _ _ hu (fun k hk => by rw [hk]; exact hrow.lt) (by omega))
      rw [hq] at CS
      have hr32 : (r : Int) % 4294967296 = (r : Int) := by have h1 : r < 4294967296 := Nat.lt_trans HI1 HD.out.2; omega
      have HM := hid hm
      clear hrow hx HI1 HI2 HI3 HI4 HI5 hq hm hu
      go_wp2_with fail
      refine CS.out.mono ?_
      rintro e w' ⟨v', rfl, hu, hx2⟩
      have H2 := hid hu
      have HX2 := hid hx2
      clear hu hx2
      go_wp2
      all_goals
        go_ret3
        rw [← HV.out, ← HM.out]
        exact ⟨_, rfl, H2.out.to (Kept.refl _ _) (fun k hk => ⟨Nat.le_trans HX.out.size hk.1, hk.2⟩), HX.out.trans HX2.out⟩
end Go.Proofs.YtbhdgdmelepnhaaGreat

namespace Go.Proofs.YtbhdgdmelepnhaaGreat
open Go.RowKit

set_option maxRecDepth 100000 in
theorem tab8_two : ∀ i : Fin 256, 0 < i.val → 1 ≤ (tab8.get! i.val).toNat ∧ (tab8.get! i.val).toNat ≤ 8 ∧ 2 ^ ((tab8.get! i.val).toNat - 1) ≤ i.val ∧ i.val < 2 ^ (tab8.get! i.val).toNat := by decide +kernel
theorem tab8_at (x : Int) (h0 : 0 < x) (h1 : x < 256) (h : x.toNat < tab8.size) : 1 ≤ (tab8[x.toNat]'h).toNat ∧ (tab8[x.toNat]'h).toNat ≤ 8 ∧ 2 ^ ((tab8[x.toNat]'h).toNat - 1) ≤ x.toNat ∧ x.toNat < 2 ^ (tab8[x.toNat]'h).toNat := by
  have := tab8_two ⟨x.toNat, by omega⟩
  have e : tab8.get! x.toNat = tab8[x.toNat]'h := by
    have h2 : x.toNat < tab8.data.size := h
    show tab8.data[x.toNat]! = tab8.data[x.toNat]'h2
    exact getElem!_pos _ _ _
  simp only [e] at this
  exact this (by omega)
theorem tab8_is (x : Int) (h0 : 0 < x) (h1 : x < 256) (h : x.toNat < tab8.size) (t : Nat) (hv : (tab8[x.toNat]'h).toNat = t) : 1 ≤ t ∧ t ≤ 8 ∧ 2 ^ (t - 1) ≤ x.toNat ∧ x.toNat < 2 ^ t := by
  subst hv
  exact tab8_at x h0 h1 h
theorem len_up {x i t j : Nat} (hi : x / 2 ^ j = i) (h1 : 1 ≤ t) (h2 : 2 ^ (t - 1) ≤ i) (h3 : i < 2 ^ t) : 2 ^ (t + j - 1) ≤ x ∧ x < 2 ^ (t + j) := by
  have hP : 0 < 2 ^ j := Nat.pow_pos (by decide)
  subst hi
  refine ⟨?_, ?_⟩
  · rw [show t + j - 1 = (t - 1) + j by omega, Nat.pow_add]
    exact Nat.le_trans (Nat.mul_le_mul_right _ h2) (Nat.div_mul_le_self _ _)
  · rw [Nat.pow_add, ← Nat.div_lt_iff_lt_mul hP]
    exact h3

set_option maxRecDepth 100000 in
set_option maxHeartbeats 4000000 in
theorem len32_is (x : Int) (w : World) (h0 : 0 < x) (h1 : x < 4294967296) :
    Calls Tryz.prog 122 #[.int .u32 x] w fun e w' => ∃ k : Nat, e = .returned (.int .i64 (k : Nat)) ∧ 1 ≤ k ∧ k ≤ 32 ∧ 2 ^ (k - 1) ≤ x.toNat ∧ x.toNat < 2 ^ k ∧ w = w' := by
  go_enter Tryz.func122, Tryz.ntmps122
  rcases (show 16777216 ≤ x ∨ 65536 ≤ x ∧ x < 16777216 ∨ 256 ≤ x ∧ x < 65536 ∨ x < 256 by omega) with h | ⟨h, h'⟩ | ⟨h, h'⟩ | h
  · go_wp2
    go_ret
    simp only [Array.getD_eq_getD_getElem?, List.getElem?_toArray, List.getElem?_cons_succ, List.getElem?_cons_zero, Option.getD_some]
    generalize hv : UInt8.toNat _ = t
    have hi : x.toNat / 2 ^ 24 = (x / 65536 / 256).toNat := by show x.toNat / 16777216 = _; omega
    obtain ⟨h3, h4, h5, h6⟩ := tab8_is (x / 65536 / 256) (by omega) (by omega) (by rw [tab8_size]; omega) t hv
    clear hv
    have P := hid (len_up hi h3 h5 h6)
    clear h5 h6 hi
    have e : wrap64 (24 + wrap64 (t : Int)) = ((t + 24 : Nat) : Int) := by unfold wrap64; omega
    exact ⟨t + 24, congrArg (fun n => Ending.returned (Value.int .i64 n)) e, by omega, by omega, P.out.1, P.out.2, trivial⟩
  · go_wp2
    go_ret
    simp only [Array.getD_eq_getD_getElem?, List.getElem?_toArray, List.getElem?_cons_succ, List.getElem?_cons_zero, Option.getD_some]
    generalize hv : UInt8.toNat _ = t
    have hi : x.toNat / 2 ^ 16 = (x / 65536).toNat := by show x.toNat / 65536 = _; omega
    obtain ⟨h3, h4, h5, h6⟩ := tab8_is (x / 65536) (by omega) (by omega) (by rw [tab8_size]; omega) t hv
    clear hv
    have P := hid (len_up hi h3 h5 h6)
    clear h5 h6 hi
    have e : wrap64 (16 + wrap64 (t : Int)) = ((t + 16 : Nat) : Int) := by unfold wrap64; omega
    exact ⟨t + 16, congrArg (fun n => Ending.returned (Value.int .i64 n)) e, by omega, by omega, P.out.1, P.out.2, trivial⟩
  · go_wp2
    go_ret
    simp only [Array.getD_eq_getD_getElem?, List.getElem?_toArray, List.getElem?_cons_succ, List.getElem?_cons_zero, Option.getD_some]
    generalize hv : UInt8.toNat _ = t
    have hi : x.toNat / 2 ^ 8 = (x / 256).toNat := by show x.toNat / 256 = _; omega
    obtain ⟨h3, h4, h5, h6⟩ := tab8_is (x / 256) (by omega) (by omega) (by rw [tab8_size]; omega) t hv
    clear hv
    have P := hid (len_up hi h3 h5 h6)
    clear h5 h6 hi
    have e : wrap64 (8 + wrap64 (t : Int)) = ((t + 8 : Nat) : Int) := by unfold wrap64; omega
    exact ⟨t + 8, congrArg (fun n => Ending.returned (Value.int .i64 n)) e, by omega, by omega, P.out.1, P.out.2, trivial⟩
  · go_wp2
    go_ret
    simp only [Array.getD_eq_getD_getElem?, List.getElem?_toArray, List.getElem?_cons_succ, List.getElem?_cons_zero, Option.getD_some]
    generalize hv : UInt8.toNat _ = t
    have hi : x.toNat / 2 ^ 0 = x.toNat := by show x.toNat / 1 = _; omega
    obtain ⟨h3, h4, h5, h6⟩ := tab8_is x (by omega) (by omega) (by rw [tab8_size]; omega) t hv
    clear hv
    have P := hid (len_up hi h3 h5 h6)
    clear h5 h6 hi
    have e : wrap64 (wrap64 (t : Int)) = ((t + 0 : Nat) : Int) := by unfold wrap64; omega
    exact ⟨t + 0, congrArg (fun n => Ending.returned (Value.int .i64 n)) e, by omega, by omega, P.out.1, P.out.2, trivial⟩

set_option maxRecDepth 100000 in
set_option maxHeartbeats 2000000 in
theorem nat_bits_is {S : Nat → Prop} (v : Value) (zs : List Nat) (w : World) (h : U32s S w v zs) (hr : zs.length ≤ 50000000000000) (h0 : 0 < val B32 zs) :
    Calls Tryz.prog 94 #[v] w fun e w' => ∃ m k : Nat, e = .returned (.int .i64 (32 * m + k : Nat)) ∧ (rep B32 (val B32 zs)).length = m + 1 ∧ 1 ≤ k ∧ k ≤ 32 ∧ 2 ^ (k - 1) ≤ dg (rep B32 (val B32 zs)) m ∧ dg (rep B32 (val B32 zs)) m < 2 ^ k ∧ w = w' := by
  have hle : (rep B32 (val B32 zs)).length ≤ zs.length := rep_len_le two_le_B32 _ _ (val_lt zs h.lt)
  have H := hid h
  obtain ⟨a, c, rfl⟩ := h.form
  clear h
  go_enter Tryz.func94, Tryz.ntmps94
  go_wp2_with fail
  refine (nat_short _ zs _ H.out).mono ?_
  rintro e w' ⟨v', rfl, hu, rfl⟩
  obtain ⟨n, hn⟩ : ∃ n, n = val B32 zs := ⟨_, rfl⟩
  rw [← hn] at hu hle h0
  have HN := hid hn
  have HU := hid hu
  obtain ⟨a', c', rfl⟩ := hu.form
  clear hu hn
  have hl : 0 < (rep B32 n).length := by
    rw [List.length_pos_iff, Ne, rep_eq_nil two_le_B32]
    omega
  obtain ⟨m, hm⟩ : ∃ m, (rep B32 n).length = m + 1 := ⟨(rep B32 n).length - 1, by omega⟩
  obtain ⟨z, hz⟩ := some_of_lt (show m < (rep B32 n).length by omega)
  have hz0 : 0 < z := by
    have h1 := rep_last two_le_B32 n
    rw [List.getLast?_eq_getElem?, show (rep B32 n).length - 1 = m by omega, hz] at h1
    have : z ≠ 0 := fun e => h1 (by rw [e])
    omega
  obtain ⟨b, off, rfl, -, hn, hm2, -, hzb, hc⟩ := HU.out.cellAt hz
  have HM := hid hm
  have HZ := hid hz
  have hb : (((rep B32 n).length : Int) == 0) = false := by rw [beq_eq_false_iff_ne]; omega
  have hi1 : ((rep B32 n).length : Int) - 1 = (m : Int) := by omega
  clear hz
  go_wp2_with fail
  refine (len32_is z _ (by omega) (by omega)).mono ?_
  rintro e w' ⟨k, rfl, hk1, hk2, hk3, hk4, rfl⟩
  rw [Int.toNat_natCast] at hk3 hk4
  have HK := hid (And.intro hk3 hk4)
  clear hk3 hk4
  go_wp2
  go_ret
  rw [← HN.out]
  refine ⟨m, k, congrArg (fun n => Ending.returned (Value.int .i64 n)) (by push_cast; rfl), HM.out, hk1, hk2, ?_, ?_, rfl⟩
  · rw [dg_some HZ.out]; exact HK.out.1
  · rw [dg_some HZ.out]; exact HK.out.2

/-- shifted so that the highest bit stands -/
theorem norm_top {V m k : Nat} (hl : (rep B32 V).length = m + 1) (hk1 : 1 ≤ k) (hk2 : k ≤ 32) (h1 : 2 ^ (k - 1) ≤ dg (rep B32 V) m) (h2 : dg (rep B32 V) m < 2 ^ k) :
    (rep B32 (V * 2 ^ (32 - k))).length = m + 1 ∧ 2147483648 ≤ dg (rep B32 (V * 2 ^ (32 - k))) m := by
  have hV := val_rep two_le_B32 V
  have hd := val_drop_dg (B := B32) (rep B32 V) m
  have hs := val_split (B := B32) (rep B32 V) m
  rw [hV, hl, show min m (m + 1) = m by omega, hd, List.drop_eq_nil_of_le (by omega), show val B32 [] = 0 from rfl, Nat.mul_zero, Nat.add_zero] at hs
  have hlow : val B32 ((rep B32 V).take m) < B32 ^ m := by
    have h3 := val_lt ((rep B32 V).take m) (fun z hz => rep_lt two_le_B32 V z (List.mem_of_mem_take hz))
    rwa [List.length_take, show min m (rep B32 V).length = m by omega] at h3
  generalize val B32 ((rep B32 V).take m) = lo at hs hlow
  generalize dg (rep B32 V) m = z at hs h1 h2
  have hP : 0 < 2 ^ (32 - k) := Nat.pow_pos (by decide)
  have hB : 2 ^ k * 2 ^ (32 - k) = B32 := by rw [← Nat.pow_add, show k + (32 - k) = 32 by omega]
  have hH : 2 ^ (k - 1) * 2 ^ (32 - k) = 2147483648 := by rw [← Nat.pow_add, show k - 1 + (32 - k) = 31 by omega]
  have hup : V * 2 ^ (32 - k) < B32 ^ (m + 1) := by
    have h3 : V < B32 ^ m * 2 ^ k := by
      have h4 : B32 ^ m * (z + 1) ≤ B32 ^ m * 2 ^ k := Nat.mul_le_mul_left _ h2
      rw [Nat.mul_add, Nat.mul_one] at h4
      omega
    have h5 := Nat.mul_lt_mul_of_pos_right h3 hP
    rwa [Nat.mul_assoc, hB, ← Nat.pow_succ] at h5
  have hdn : 2147483648 * B32 ^ m ≤ V * 2 ^ (32 - k) := by
    have h3 : B32 ^ m * 2 ^ (k - 1) ≤ V := by
      have h4 : B32 ^ m * 2 ^ (k - 1) ≤ B32 ^ m * z := Nat.mul_le_mul_left _ h1
      omega
    have h5 := Nat.mul_le_mul_right (2 ^ (32 - k)) h3
    rwa [Nat.mul_assoc, hH, Nat.mul_comm] at h5
  have hBm : 0 < B32 ^ m := Nat.pow_pos (by decide)
  have hq : 2147483648 ≤ V * 2 ^ (32 - k) / B32 ^ m := (Nat.le_div_iff_mul_le hBm).2 hdn
  have hle : (rep B32 V).length ≤ (rep B32 (V * 2 ^ (32 - k))).length := rep_mono_len (Nat.le_mul_of_pos_right _ hP)
  have hge : (rep B32 (V * 2 ^ (32 - k))).length ≤ m + 1 := rep_len_le two_le_B32 _ _ hup
  refine ⟨by omega, ?_⟩
  rw [dg_val (by decide) _ (rep_lt two_le_B32 _), val_rep two_le_B32, Nat.mod_eq_of_lt (Nat.div_lt_of_lt_mul (by rw [← Nat.pow_succ]; exact hup))]
  exact hq
end Go.Proofs.YtbhdgdmelepnhaaGreat

namespace Go.Proofs.YtbhdgdmelepnhaaGreat
open Go.RowKit

theorem part_lt {B : Nat} {u : List Nat} (hu : ∀ z ∈ u, z < B) (k n : Nat) : ∀ z ∈ partL u k n, z < B := fun z hz => hu z (List.mem_of_mem_drop (List.mem_of_mem_take hz))
theorem put_lt {B : Nat} {u ps : List Nat} (hu : ∀ z ∈ u, z < B) (hp : ∀ z ∈ ps, z < B) (k : Nat) : ∀ z ∈ putL u k ps, z < B := by
  intro z hz
  unfold putL at hz
  rcases List.mem_append.1 hz with h | h
  · rcases List.mem_append.1 h with h | h
    · exact hu z (List.mem_of_mem_take h)
    · exact hp z h
  · exact hu z (List.mem_of_mem_drop h)
theorem u_set_lt {B : Nat} {u : List Nat} (hu : ∀ z ∈ u, z < B) {k q : Nat} (hq : q < B) : ∀ z ∈ u.set k q, z < B := by
  intro z hz
  rcases List.mem_or_eq_of_mem_set hz with h1 | h1
  · exact hu z h1
  · rw [h1]; exact hq
theorem part_put {u ps : List Nat} {k n : Nat} (hk : k + n < u.length) (hp : ps.length = n + 1) : partL (putL u k ps) k n = ps := by
  unfold partL putL
  have hl : (u.take k).length = k := by rw [List.length_take]; omega
  rw [List.append_assoc, List.drop_append_of_le_length (by omega), List.drop_eq_nil_of_le (by omega), List.nil_append, List.take_append_of_le_length (by omega), List.take_of_length_le (by omega)]
theorem put_put {u ps rs : List Nat} {k n : Nat} (hk : k + n < u.length) (hp : ps.length = n + 1) (hr : rs.length = n + 1) : putL (putL u k ps) k rs = putL u k rs := by
  unfold putL
  have hl : (u.take k).length = k := by rw [List.length_take]; omega
  have hl2 : (u.take k ++ ps).length = k + ps.length := by rw [List.length_append, hl]
  have e1 : (u.take k ++ ps ++ u.drop (k + ps.length)).take k = u.take k := by
    rw [List.append_assoc, List.take_append_of_le_length (by omega), List.take_of_length_le (by omega)]
  have e2 : (u.take k ++ ps ++ u.drop (k + ps.length)).drop (k + rs.length) = u.drop (k + rs.length) := by
    rw [show k + rs.length = (u.take k ++ ps).length by omega, List.drop_left, hl2]
  rw [e1, e2]
/-- the highest limb of a part is at most the divisor's -/
theorem top_le {k n V : Nat} {o vs : List Nat} (ho : ∀ z ∈ o, z < B32) (hvs : ∀ z ∈ vs, z < B32) (hk : k + (n + 1) < o.length) (lv : vs.length = n + 1) (hV : val B32 vs = V) (hlow : val B32 (o.drop (k + 1)) < V) :
    dg (partL o k (n + 1)) (n + 1) ≤ dg vs n := by
  have hVB : V < B32 ^ (n + 1) := by rw [← hV, ← lv]; exact val_lt vs hvs
  obtain ⟨-, p2, -⟩ := part_val two_le_B32 ho hk hVB hlow
  have hs := val_split (B := B32) (partL o k (n + 1)) (n + 1)
  rw [part_len hk, show min (n + 1) (n + 1 + 1) = n + 1 by omega, val_drop_dg, List.drop_eq_nil_of_le (by rw [part_len hk]; omega), show val B32 [] = 0 from rfl, Nat.mul_zero, Nat.add_zero] at hs
  have hs2 := val_split (B := B32) vs n
  rw [lv, show min n (n + 1) = n by omega, val_drop_dg, List.drop_eq_nil_of_le (by omega), show val B32 [] = 0 from rfl, Nat.mul_zero, Nat.add_zero, hV] at hs2
  have hl : val B32 (vs.take n) < B32 ^ n := by
    have h3 := val_lt (vs.take n) (fun z hz => hvs z (List.mem_of_mem_take hz))
    rwa [List.length_take, show min n vs.length = n by omega] at h3
  simp only [Nat.add_zero] at hs
  generalize dg (partL o k (n + 1)) (n + 1) = t at hs ⊢
  generalize dg vs n = z at hs2 ⊢
  have h1 : V < B32 ^ n * (z + 1) := by rw [Nat.mul_add, Nat.mul_one]; omega
  have h2 : B32 * V ≤ B32 * (B32 ^ n * (z + 1)) := Nat.mul_le_mul_left _ (Nat.le_of_lt h1)
  have h3 : B32 ^ (n + 1) * t < B32 ^ (n + 1) * (z + 1) := by
    rw [Nat.pow_succ, Nat.mul_comm (B32 ^ n) B32, Nat.mul_assoc B32 (B32 ^ n) (z + 1)]
    rw [Nat.pow_succ, Nat.mul_comm (B32 ^ n) B32] at hs
    omega
  have := Nat.lt_of_mul_lt_mul_left h3
  omega
/-- one limb of the quotient -/
theorem knuth_step {A V m k q r : Nat} {o qs vs : List Nat} (ho : ∀ z ∈ o, z < B32) (hvs : ∀ z ∈ vs, z < B32) (hk : k + (m + 2) < o.length) (hkq : k < qs.length) (lv : vs.length = m + 2) (hV : val B32 vs = V) (hV1 : 2147483648 ≤ dg vs (m + 1))
    (h : NDivAt B32 A V (m + 2) o qs (k + 1)) (ht : r + q * dg vs (m + 1) = dg (partL o k (m + 2)) (m + 2) * B32 + dg (partL o k (m + 2)) (m + 1)) (hqB : q < B32) (hc : q * dg vs m ≤ r * B32 + dg (partL o k (m + 2)) m)
    (hok : GuessOk B32 (dg (partL o k (m + 2)) (m + 2) * B32 + dg (partL o k (m + 2)) (m + 1)) (dg (partL o k (m + 2)) m) (dg vs (m + 1)) (dg vs m) q)
    {ps : List Nat} {b : Nat} (hb : b ≤ 1) (hpl : ps.length = m + 2 + 1) (hps : ∀ z ∈ ps, z < B32) (hp : val B32 ps + q * val B32 vs = val B32 (partL o k (m + 2)) + B32 ^ (m + 2 + 1) * b) :
    (b = 0 → NDivAt B32 A V (m + 2) (putL o k ps) (qs.set k q) k) ∧
    (b = 1 → 0 < q ∧ ∀ rs : List Nat, rs.length = m + 2 + 1 → val B32 rs = (val B32 ps + val B32 vs) % B32 ^ (m + 2 + 1) → NDivAt B32 A V (m + 2) (putL o k rs) (qs.set k (q - 1)) k) := by
  have hVB : V < B32 ^ (m + 2) := by rw [← hV, ← lv]; exact val_lt vs hvs
  obtain ⟨-, p2, -⟩ := part_val two_le_B32 ho hk hVB h.low
  have hus := part_lt ho k (m + 2)
  obtain ⟨g1, g2⟩ := guess_limbs two_le_B32 (us := partL o k (m + 2)) (vs := vs) (n := m + 2) (q := q) (r := r) hus hvs (part_len hk) lv (by omega) (show 0 < dg vs (m + 1) by omega) (by rw [hV]; exact p2) ht hqB hc hok
  rw [hV] at g1 g2 hp ⊢
  have hU : val B32 (partL o k (m + 2)) < B32 ^ (m + 2 + 1) := by rw [← part_len hk]; exact val_lt _ hus
  have hP : val B32 ps < B32 ^ (m + 2 + 1) := by rw [← hpl]; exact val_lt _ hps
  have hVM : V ≤ B32 ^ (m + 2 + 1) := Nat.le_trans (Nat.le_of_lt hVB) (Nat.pow_le_pow_right (by decide) (by omega))
  have hV0 : 0 < V := by
    have := h.low
    omega
  obtain ⟨d1, d2⟩ := digit_ok hP hb hp g1 g2 hU hVM
  refine ⟨fun e => ?_, fun e => ?_⟩
  · obtain ⟨e1, e2⟩ := d1 e
    rw [e1]
    exact ndiv_step two_le_B32 ho hk hkq hVB h hpl e2 hV0
  · obtain ⟨e0, e1, e2⟩ := d2 e
    refine ⟨e0, fun rs hl hr => ?_⟩
    rw [e1]
    exact ndiv_step two_le_B32 ho hk hkq hVB h hl (hr.trans e2) hV0
/-- the start: no limb of the quotient yet -/
theorem knuth_start {A V n La s lu Bv : Nat} {o qs : List Nat} (ho : ∀ z ∈ o, z < B32) (lo : o.length = La + 1) (hA : val B32 o = A * 2 ^ s) (lA : (rep B32 A).length = La) (hn : 1 ≤ n) (hla : n ≤ La) (hV : V = Bv * 2 ^ s) (lB : (rep B32 Bv).length = n) (hq : qs.length = La + 1 - n) (_h : lu = 0) :
    NDivAt B32 (A * 2 ^ s) V n o qs (La + 1 - n) := by
  refine ⟨?_, ?_⟩
  · rw [List.drop_eq_nil_of_le (by omega), show val B32 [] = 0 from rfl, Nat.mul_zero, Nat.mul_zero, Nat.add_zero, hA]
  · have hs := val_split (B := B32) o (La + 1 - n)
    rw [lo, show min (La + 1 - n) (La + 1) = La + 1 - n by omega, hA] at hs
    have h1 : A < B32 ^ La := by rw [← lA]; have := val_lt (rep B32 A) (rep_lt two_le_B32 A); rwa [val_rep two_le_B32] at this
    have h2 : B32 ^ (n - 1) ≤ Bv := by
      by_cases h : B32 ^ (n - 1) ≤ Bv
      · exact h
      · have := rep_len_le two_le_B32 Bv (n - 1) (by omega)
        omega
    have hP : 0 < 2 ^ s := Nat.pow_pos (by decide)
    have h3 : A * 2 ^ s < B32 ^ (La + 1 - n) * V := by
      rw [hV]
      have h4 : B32 ^ La * 2 ^ s ≤ B32 ^ (La + 1 - n) * (Bv * 2 ^ s) := by
        rw [← Nat.mul_assoc]
        refine Nat.mul_le_mul_right _ ?_
        have e : B32 ^ La = B32 ^ (La + 1 - n) * B32 ^ (n - 1) := by rw [← Nat.pow_add, show La + 1 - n + (n - 1) = La by omega]
        rw [e]
        exact Nat.mul_le_mul_left _ h2
      exact Nat.lt_of_lt_of_le (Nat.mul_lt_mul_of_pos_right h1 hP) h4
    have h5 : B32 ^ (La + 1 - n) * val B32 (o.drop (La + 1 - n)) < B32 ^ (La + 1 - n) * V := by omega
    exact Nat.lt_of_mul_lt_mul_left h5
/-- a part of a row as limbs -/
theorem part_u32 {w : World} {T : TypeId} {g k n cap : Nat} {o : List Nat} (hrow : w.rowIs g T cap (rowU o)) (ho : ∀ z ∈ o, z < B32) (hk : k + n < o.length) (hc : o.length ≤ cap) (hcap : cap ≤ 9223372036854775807) :
    U32s (fun j => j = g) w (.slice (some ⟨g, k, none⟩) (n + 1) (n + 1)) (partL o k n) := by
  refine ⟨g, k, ⟨_, n + 1, by rw [part_len hk], by rw [part_len hk]; omega, by unfold maxLen; omega, fun _ => rfl, fun _ => rfl⟩, fun j z hz => ⟨part_lt ho k n z (List.mem_of_getElem? hz), ?_⟩⟩
  have hj := lt_of_some hz
  rw [part_len hk] at hj
  rw [hrow.cell (i := k + j) (by omega)]
  show some (Value.int .u32 (dg o (k + j) : Nat)) = _
  rw [← part_dg (n := n) hj, dg_some hz]
end Go.Proofs.YtbhdgdmelepnhaaGreat

namespace Go.Proofs.YtbhdgdmelepnhaaGreat
open Go.RowKit

/-- what division answers -/
def DivPost (A B : Nat) (w : World) : Ending → World → Prop := fun e w' =>
  ∃ vq vr, e = .returned (.tuple #[vq, vr, .int .i64 0]) ∧ U32s (New w w') w' vq (rep B32 (A / B)) ∧ U32s (New w w') w' vr (rep B32 (A % B)) ∧ Ext w w'

set_option maxRecDepth 100000 in
set_option maxHeartbeats 4000000 in
theorem div_mod_lt {S : Nat → Prop} (va vb : Value) (xs ys : List Nat) (w : World) (ha : U32s S w va xs) (hb : U32s S w vb ys) (hS : ∀ k, S k → k < w.heap.size) (hr : xs.length ≤ 100000000000) (hr2 : ys.length ≤ 100000000000) (hlt : val B32 xs < val B32 ys) :
    Calls Tryz.prog 120 #[va, vb] w (DivPost (val B32 xs) (val B32 ys) w) := by
  have HA := hid ha
  have HB := hid hb
  have HLT := hid hlt
  clear ha hb hlt
  go_enter Tryz.func120, Tryz.ntmps120
  go_wp2_with fail
  refine (nat_trim _ xs _ HA.out hS (by omega)).mono ?_
  rintro e w1 ⟨v1, rfl, hu1, hx1⟩
  have HA1 := hid hu1
  have HX1 := hid hx1
  clear hu1 hx1
  go_wp2_with fail
  refine (nat_trim _ ys w1 (HB.out.ext HX1.out hS) (fun k hk => Nat.lt_of_lt_of_le (hS k hk) HX1.out.size) (by omega)).mono ?_
  rintro e w2 ⟨v2, rfl, hu2, hx2⟩
  have HX2 := hid (HX1.out.trans hx2)
  have HA2 := hid (HA1.out.to (S' := Old w2) (Kept.ext hx2 (fun _ h => h.2)) (fun k h => Nat.lt_of_lt_of_le h.2 hx2.size))
  have HA3 := hid (HA1.out.to (S' := New w w2) (Kept.ext hx2 (fun _ h => h.2)) (fun k h => ⟨h.1, Nat.lt_of_lt_of_le h.2 hx2.size⟩))
  have HB2 := hid (hu2.to (S' := Old w2) (Kept.refl _ _) (fun k h => h.2))
  obtain ⟨a2, c2, rfl⟩ := hu2.form
  clear hu2 hx2
  have hl0 : (((rep B32 (val B32 ys)).length : Int) == 0) = false := by
    have h1 : rep B32 (val B32 ys) ≠ [] := by
      rw [Ne, rep_eq_nil two_le_B32]
      have := HLT.out
      omega
    have h2 := List.length_pos_iff.2 h1
    rw [beq_eq_false_iff_ne]
    omega
  have CC := hid (nat_cmp _ _ _ _ w2 HA2.out HB2.out (fun _ h => h))
  have hcmp : cmpN (val B32 (rep B32 (val B32 xs))) (val B32 (rep B32 (val B32 ys))) = -1 := by
    rw [val_rep two_le_B32, val_rep two_le_B32]
    unfold cmpN cmpI
    have := HLT.out
    rw [if_pos (by omega)]
  rw [hcmp] at CC
  go_wp2_with fail
  refine CC.out.mono ?_
  rintro e w3 ⟨rfl, hx3⟩
  have HX3 := hid hx3
  clear hx3
  go_wp2
  all_goals
    go_ret3
    refine ⟨_, _, rfl, ?_, ?_, HX2.out.trans HX3.out⟩
    · rw [Nat.div_eq_of_lt HLT.out]
      exact U32s.nilv _ _ _ _ (by omega)
    · rw [Nat.mod_eq_of_lt HLT.out]
      exact HA3.out.to (Kept.ext HX3.out (fun _ h => h.2)) (fun k h => ⟨h.1, Nat.lt_of_lt_of_le h.2 HX3.out.size⟩)

set_option maxRecDepth 100000 in
set_option maxHeartbeats 4000000 in
theorem div_mod_one {S : Nat → Prop} (va vb : Value) (xs ys : List Nat) (w : World) (ha : U32s S w va xs) (hb : U32s S w vb ys) (hS : ∀ k, S k → k < w.heap.size) (hr : xs.length ≤ 100000000000) (hr2 : ys.length ≤ 100000000000) (hge : val B32 ys ≤ val B32 xs) (h1 : (rep B32 (val B32 ys)).length = 1) :
    Calls Tryz.prog 120 #[va, vb] w (DivPost (val B32 xs) (val B32 ys) w) := by
  have HA := hid ha
  have HB := hid hb
  have HGE := hid hge
  have HLA : Hid ((rep B32 (val B32 xs)).length ≤ xs.length) := hid (rep_len_le two_le_B32 _ _ (val_lt xs ha.lt))
  obtain ⟨d, hd⟩ : ∃ d, rep B32 (val B32 ys) = [d] := by
    match h : rep B32 (val B32 ys), h1 with
    | [d], _ => exact ⟨d, rfl⟩
  have hdb : d < B32 := rep_lt two_le_B32 (val B32 ys) d (by rw [hd]; exact List.mem_singleton.2 rfl)
  have hv : val B32 ys = d := by
    have h2 := val_rep two_le_B32 (val B32 ys)
    rw [hd] at h2
    rw [← h2]
    simp [val]
  have hd0 : 0 < d := by
    rcases Nat.eq_zero_or_pos d with h | h
    · rw [hv, h] at hd
      simp [rep_zero] at hd
    · exact h
  obtain ⟨r, hr0⟩ : ∃ r, r = val B32 xs % d := ⟨_, rfl⟩
  have hrb : r < 18446744073709551616 := by rw [hr0]; exact Nat.lt_trans (Nat.lt_trans (Nat.mod_lt _ hd0) hdb) (by decide)
  have hd64 : IntKind.u64.wrap (r : Int) = (r : Int) := wrap_nat64 hrb
  have HRB := hid hrb
  have HR0 := hid hr0
  have HD := hid (And.intro hd (And.intro hdb (And.intro hv hd0)))
  clear ha hb hge h1 hd hdb hv hd0 hr0 hrb
  go_enter Tryz.func120, Tryz.ntmps120
  go_wp2_with fail
  refine (nat_trim _ xs _ HA.out hS (by omega)).mono ?_
  rintro e w1 ⟨v1, rfl, hu1, hx1⟩
  have HA1 := hid hu1
  have HX1 := hid hx1
  clear hu1 hx1
  go_wp2_with fail
  refine (nat_trim _ ys w1 (HB.out.ext HX1.out hS) (fun k hk => Nat.lt_of_lt_of_le (hS k hk) HX1.out.size) (by omega)).mono ?_
  rintro e w2 ⟨v2, rfl, hu2, hx2⟩
  rw [HD.out.1] at hu2
  have HX2 := hid (HX1.out.trans hx2)
  have HA2 := hid (HA1.out.to (S' := Old w2) (Kept.ext hx2 (fun _ h => h.2)) (fun k h => Nat.lt_of_lt_of_le h.2 hx2.size))
  have HB2 := hid (hu2.to (S' := Old w2) (Kept.refl _ _) (fun k h => h.2))
  obtain ⟨a2, c2, rfl⟩ := hu2.form
  obtain ⟨b2, o2, rfl, -, hn2, hm2, hs2, hb2, hcell⟩ := hu2.cellAt (k := 0) (z := d) rfl
  rw [Nat.add_zero] at hcell
  have HS2 := hid hs2.2
  clear hu2 hx2 hs2
  have CC := hid (nat_cmp _ _ _ _ w2 HA2.out HB2.out (fun _ h => h))
  obtain ⟨c, hc⟩ : ∃ c, c = cmpN (val B32 (rep B32 (val B32 xs))) (val B32 [d]) := ⟨_, rfl⟩
  have hcmp : 0 ≤ c := by
    have e : val B32 [d] = d := by simp [val]
    rw [hc, val_rep two_le_B32, e, ← HD.out.2.2.1]
    unfold cmpN cmpI
    have := HGE.out
    split
    · omega
    · split <;> omega
  rw [← hc] at CC
  clear hc
  go_wp2_with fail
  refine CC.out.mono ?_
  rintro e w3 ⟨rfl, hx3⟩
  have hcell3 := hx3.cell hcell
  have HX3 := hid (HX2.out.trans hx3)
  have HA3 := hid (HA2.out.to (S' := Old w3) (Kept.ext hx3 (fun _ h => h)) (fun k h => Nat.lt_of_lt_of_le h hx3.size))
  have CL := hid (div_limb _ _ d w3 HA3.out (fun _ h => h) (by have := HLA.out; omega) HD.out.2.2.2 HD.out.2.1)
  rw [val_rep two_le_B32, ← HR0.out] at CL
  clear hx3 hcell
  go_wp2_with fail
  refine CL.out.mono ?_
  rintro e w4 ⟨v4, rfl, hu4, hx4⟩
  have HU4 := hid hu4
  have HX4 := hid hx4
  clear hu4 hx4
  have CS := hid (nat_small r w4 HRB.out)
  go_wp2_with fail
  refine CS.out.mono ?_
  rintro e w5 ⟨v5, rfl, hu5, hx5⟩
  have HU5 := hid hu5
  have HX5 := hid hx5
  clear hu5 hx5
  go_wp2
  all_goals
    go_ret3
    have x3 := HX3.out
    have x4 := HX4.out
    have x5 := HX5.out
    refine ⟨_, _, rfl, ?_, ?_, (x3.trans x4).trans x5⟩
    · rw [HD.out.2.2.1]
      exact HU4.out.to (Kept.ext x5 (fun _ h => h.2)) (fun k h => ⟨Nat.le_trans x3.size h.1, Nat.lt_of_lt_of_le h.2 x5.size⟩)
    · rw [HD.out.2.2.1, ← HR0.out]
      exact HU5.out.to (Kept.refl _ _) (fun k h => ⟨Nat.le_trans (Nat.le_trans x3.size x4.size) h.1, h.2⟩)
end Go.Proofs.YtbhdgdmelepnhaaGreat

namespace Go.Proofs.YtbhdgdmelepnhaaGreat
open Go.RowKit

set_option maxRecDepth 100000 in
set_option maxHeartbeats 8000000 in
theorem div_mod_big {S : Nat → Prop} (va vb : Value) (xs ys : List Nat) (w : World) (ha : U32s S w va xs) (hb : U32s S w vb ys) (hS : ∀ k, S k → k < w.heap.size) (hr : xs.length ≤ 100000000000) (hr2 : ys.length ≤ 100000000000) (hge : val B32 ys ≤ val B32 xs) (m : Nat) (h2 : (rep B32 (val B32 ys)).length = m + 2) :
    Calls Tryz.prog 120 #[va, vb] w (DivPost (val B32 xs) (val B32 ys) w) := by
  have HA := hid ha
  have HB := hid hb
  have HLA : Hid ((rep B32 (val B32 xs)).length ≤ xs.length) := hid (rep_len_le two_le_B32 _ _ (val_lt xs ha.lt))
  have HLB : Hid ((rep B32 (val B32 ys)).length ≤ ys.length) := hid (rep_len_le two_le_B32 _ _ (val_lt ys hb.lt))
  have HAB : Hid ((rep B32 (val B32 ys)).length ≤ (rep B32 (val B32 xs)).length) := hid (rep_mono_len hge)
  obtain ⟨A, hA⟩ : ∃ A, A = val B32 xs := ⟨_, rfl⟩
  obtain ⟨D, hD⟩ : ∃ D, D = val B32 ys := ⟨_, rfl⟩
  rw [← hA] at hge HLA HAB ⊢
  rw [← hD] at hge h2 HLB HAB ⊢
  have HAE := hid hA
  have HDE := hid hD
  have HGE := hid hge
  obtain ⟨La, hLa⟩ : ∃ La, La = (rep B32 A).length := ⟨_, rfl⟩
  rw [← hLa, h2] at HAB
  rw [← hLa] at HLA
  rw [h2] at HLB
  have hla1 : m + 2 ≤ La := HAB.out
  have hla2 : La ≤ 100000000000 := Nat.le_trans HLA.out hr
  have HLL := hid hLa
  have HL2 := hid h2
  have hD0 : 0 < D := by
    rcases Nat.eq_zero_or_pos D with h | h
    · rw [h, rep_zero] at h2
      cases h2
    · exact h
  have HD0 := hid hD0
  clear ha hb hge hLa h2 hD0 hA hD
  go_enter Tryz.func120, Tryz.ntmps120
  go_wp2_with fail
  refine (nat_trim _ xs _ HA.out hS (by omega)).mono ?_
  rintro e w1 ⟨v1, rfl, hu1, hx1⟩
  rw [← HAE.out] at hu1
  have HA1 := hid hu1
  have HX1 := hid hx1
  clear hu1 hx1
  go_wp2_with fail
  refine (nat_trim _ ys w1 (HB.out.ext HX1.out hS) (fun k hk => Nat.lt_of_lt_of_le (hS k hk) HX1.out.size) (by omega)).mono ?_
  rintro e w2 ⟨v2, rfl, hu2, hx2⟩
  rw [← HDE.out] at hu2
  have HX2 := hid (HX1.out.trans hx2)
  have HA2 := hid (HA1.out.to (S' := Old w2) (Kept.ext hx2 (fun _ h => h.2)) (fun k h => Nat.lt_of_lt_of_le h.2 hx2.size))
  have HB2 := hid (hu2.to (S' := Old w2) (Kept.refl _ _) (fun k h => h.2))
  obtain ⟨a2, c2, rfl⟩ := hu2.form
  rw [HL2.out] at HB2 ⊢
  obtain ⟨a1, c1, rfl⟩ := HA2.out.form
  rw [← HLL.out] at HA2 ⊢
  clear hu2 hx2 HA1
  have CC := hid (nat_cmp _ _ _ _ w2 HA2.out HB2.out (fun _ h => h))
  obtain ⟨c, hc⟩ : ∃ c, c = cmpN (val B32 (rep B32 A)) (val B32 (rep B32 D)) := ⟨_, rfl⟩
  have hcmp : 0 ≤ c := by
    rw [hc, val_rep two_le_B32, val_rep two_le_B32]
    unfold cmpN cmpI
    have := HGE.out
    split
    · omega
    · split <;> omega
  rw [← hc] at CC
  clear hc
  go_wp2_with fail
  refine CC.out.mono ?_
  rintro e w3 ⟨rfl, hx3⟩
  have HX3 := hid (HX2.out.trans hx3)
  have HA3 := hid (HA2.out.to (S' := Old w3) (Kept.ext hx3 (fun _ h => h)) (fun k h => Nat.lt_of_lt_of_le h hx3.size))
  have HB3 := hid (HB2.out.to (S' := Old w3) (Kept.ext hx3 (fun _ h => h)) (fun k h => Nat.lt_of_lt_of_le h hx3.size))
  have CB := hid (nat_bits_is _ _ w3 HB3.out (by rw [HL2.out]; omega) (by rw [val_rep two_le_B32]; exact HD0.out))
  rw [val_rep two_le_B32] at CB
  clear hx3
  go_wp2_with fail
  refine CB.out.mono ?_
  rintro e w3' ⟨m', k, rfl, hm', hk1, hk2, ht1, ht2, rfl⟩
  obtain rfl : m' = m + 1 := by have := HL2.out; omega
  obtain ⟨s, hs⟩ : ∃ s, s = 32 - k := ⟨_, rfl⟩
  have HN := hid (norm_top HL2.out hk1 hk2 ht1 ht2)
  rw [← hs, show m + 1 + 1 = m + 2 from rfl] at HN
  have hs32 : s < 32 := by omega
  have hsh : 32 * ((m : Int) + 2) - (32 * ((m : Int) + 1) + (k : Int)) = (s : Int) := by omega
  clear ht1 ht2 hs
  have CV := hid (nat_shl _ _ s w3 HB3.out (fun _ h => h) (by rw [HL2.out]; omega) hs32)
  rw [val_rep two_le_B32, HL2.out, HN.out.1] at CV
  go_wp2_with fail
  refine CV.out.mono ?_
  rintro e w4 ⟨gv, rfl, hgv1, hgv2, hrv, hx4⟩
  have HX4 := hid (HX3.out.trans hx4)
  have HGV := hid (And.intro hgv1 hgv2)
  have HRV := hid hrv
  have HA4 := hid (HA3.out.to (S' := Old w4) (Kept.ext hx4 (fun _ h => h)) (fun k h => Nat.lt_of_lt_of_le h hx4.size))
  clear hx4 hgv1 hgv2 hrv
  have CU := hid (nat_shl _ _ s w4 HA4.out (fun _ h => h) (by rw [← HLL.out]; omega) hs32)
  rw [val_rep two_le_B32, ← HLL.out] at CU
  go_wp2_with fail
  refine CU.out.mono ?_
  rintro e w5 ⟨gu, rfl, hgu1, hgu2, hru, hx5⟩
  obtain ⟨lu, hlu⟩ : ∃ lu, lu = (rep B32 (A * 2 ^ s)).length := ⟨_, rfl⟩
  rw [← hlu]
  have hlu1 : lu ≤ La + 1 := by
    rw [hlu]
    refine rep_len_le two_le_B32 _ _ ?_
    have h1 : A < B32 ^ La := by
      have h2 := val_lt (rep B32 A) (rep_lt two_le_B32 A)
      rwa [val_rep two_le_B32, ← HLL.out] at h2
    have h3 : 2 ^ s ≤ B32 := show 2 ^ s ≤ 2 ^ 32 from Nat.pow_le_pow_right (by decide) (by omega)
    rw [Nat.pow_succ]
    exact Nat.lt_of_lt_of_le (Nat.mul_lt_mul_of_pos_right h1 (Nat.pow_pos (by decide))) (Nat.mul_le_mul_left _ h3)
  have hlu2 : La ≤ lu := by
    rw [hlu, HLL.out]
    exact rep_mono_len (Nat.le_mul_of_pos_right _ (Nat.pow_pos (by decide)))
  have HLU := hid hlu
  have HRU := hid hru
  have HGU := hid (And.intro hgu1 hgu2)
  have HX5 := hid hx5
  clear hlu hru hgu1 hgu2 hx5
  go_wp2
  go_loopw [13] (fun s13 wr => ∃ l : Nat, s13 = .slice (some ⟨gu, 0, none⟩) l (La + 1) ∧ lu ≤ l ∧ l ≤ La + 1 ∧ wr.rowIs gu 119 (La + 1) (rowU (rep B32 (A * 2 ^ s))) ∧ Ext w4 wr) (fun s13 _ => La + 1 - (sliceLen s13))
  case atStart => exact ⟨lu, rfl, Nat.le_refl _, hlu1, HRU.out, HX5.out⟩
  case round =>
    obtain ⟨l, rfl, hl1, hl2, hrow, hx⟩ := hrel
    have HR := hid hrow
    have HX := hid hx
    clear hrow hx
    by_cases hlt : l ≤ La
    · have hra := HR.out.alloc (.cells #[.int .u32 0] 119)
      have hfz := hra.frozen l
      have hfc := hra.cell (i := l) (by omega)
      have HRA := hid hra
      clear hra
      go_wp2
      refine ⟨⟨l + 1, rfl, by omega, by omega, ?_, ?_⟩, by simp only [sliceLen]; omega⟩
      · refine (HRA.out.set l (.int .u32 0)).congr (fun i hi => ?_)
        by_cases e : i = l
        · rw [if_pos e, e]
          unfold rowU
          rw [dg_out (by rw [← HLU.out]; exact hl1)]
          rfl
        · rw [if_neg e]
      · exact (Ext.alloc HX.out _).setCell HGU.out.1 _
    · obtain rfl : l = La + 1 := by omega
      obtain ⟨nq, hnq⟩ : ∃ nq, nq = La + 1 - (m + 2) := ⟨_, rfl⟩
      have hnq2 : (La : Int) + 1 - ((m : Int) + 2) = (nq : Int) := by omega
      have hnq3 : nq + (m + 2) = La + 1 := by omega
      have hmk := run_make_row' (P := Tryz.prog) 24 119 (.int .u32 0) 4 Tryz.underlying24 Tryz.infoU32 rfl .i64 .i64 nq (by omega) (by omega) wr
      have HQ0 := hid (rowU_zeros wr nq 119)
      have HQX := hid (Ext.alloc HX.out (.cells (madeCells #[.int .u32 0] nq) 119))
      have HQU := hid (HR.out.alloc (.cells (madeCells #[.int .u32 0] nq) 119))
      have HGW := hid HR.out.lt
      have HXS := hid HX.out.size
      have HVW := hid (World.rowIs.of_block HRV.out (HQX.out.block gv HGV.out.2))
      obtain ⟨gq, hgq⟩ : ∃ gq, gq = wr.heap.size := ⟨_, rfl⟩
      obtain ⟨w6, hw6⟩ : ∃ w6, w6 = wr.alloc (.cells (madeCells #[.int .u32 0] nq) 119) := ⟨_, rfl⟩
      rw [← hw6, ← hgq] at hmk HQ0
      rw [← hw6] at HQX HQU HVW
      rw [← hgq] at HGW HXS
      clear hnq hgq hw6
      go_wp2
      obtain ⟨V, hV⟩ : ∃ V, V = D * 2 ^ s := ⟨_, rfl⟩
      obtain ⟨vs, hvs⟩ : ∃ vs, vs = rep B32 V := ⟨_, rfl⟩
      have hvv : val B32 vs = V := by rw [hvs, val_rep two_le_B32]
      have hvl : ∀ z ∈ vs, z < B32 := by rw [hvs]; exact rep_lt two_le_B32 V
      rw [← hV, ← hvs] at HN HVW
      have HVS := hid (And.intro hvv hvl)
      have HVE := hid hV
      clear hV hvs hvv hvl
      go_loopw [87] (fun s87 wq => ∃ (i : Nat) (o qs : List Nat), s87 = .int .i64 (i : Nat) ∧ i ≤ nq ∧ Hid (o.length = La + 1 ∧ (∀ z ∈ o, z < B32) ∧ qs.length = nq ∧ (∀ z ∈ qs, z < B32) ∧ NDivAt B32 (A * 2 ^ s) V (m + 2) o qs (nq - i)) ∧
        wq.rowIs gu 119 (La + 1) (rowU o) ∧ wq.rowIs gq 119 nq (rowU qs) ∧ wq.rowIs gv 119 (m + 2 + 1) (rowU vs) ∧ Ext w4 wq) (fun s87 _ => nq - (intOf s87).toNat)
      case atStart =>
        obtain ⟨ro, hro⟩ : ∃ ro, ro = rep B32 (A * 2 ^ s) := ⟨_, rfl⟩
        obtain ⟨o, ho⟩ : ∃ o, o = ro ++ List.replicate (La + 1 - lu) 0 := ⟨_, rfl⟩
        have hrl : ro.length = lu := by rw [hro]; exact HLU.out.symm
        have hol : o.length = La + 1 := by rw [ho, List.length_append, List.length_replicate, hrl]; omega
        have hob : ∀ z ∈ o, z < B32 := by
          intro z hz
          rw [ho] at hz
          rcases List.mem_append.1 hz with h | h
          · rw [hro] at h
            exact rep_lt two_le_B32 _ z h
          · rw [(List.mem_replicate.1 h).2]; decide
        have hov : val B32 o = A * 2 ^ s := by rw [ho, val_append, val_zeros, Nat.mul_zero, Nat.add_zero, hro, val_rep two_le_B32]
        refine ⟨0, o, List.replicate nq 0, rfl, Nat.zero_le _, hid ⟨hol, hob, by simp, fun z hz => by rw [(List.mem_replicate.1 hz).2]; decide, ?_⟩, ?_, HQ0.out, HVW.out, HQX.out⟩
        · have h1 := knuth_start (A := A) (V := V) (n := m + 2) (La := La) (s := s) (Bv := D) (lu := 0) (qs := List.replicate nq 0) hob hol hov HLL.out.symm (by omega) hla1 HVE.out HL2.out (by simp; omega) rfl
          rwa [show La + 1 - (m + 2) = nq by omega] at h1
        · rw [rowU_same (dg_rep hob _ hov)]
          exact HQU.out
      case round =>
        obtain ⟨i, o, qs, rfl, hi, HI, hrow, hrq, hrv, hx⟩ := hrel
        have HRO := hid hrow
        have HRQ := hid hrq
        have HRW := hid hrv
        have HXQ := hid hx
        by_cases hlt : i < nq
        · obtain ⟨j, hj⟩ : ∃ j, j + 1 = nq - i := ⟨nq - i - 1, by omega⟩
          have hj2 : (nq : Int) - 1 - (i : Int) = (j : Int) := by omega
          obtain ⟨p, hp⟩ : ∃ p, p = j + (m + 2) + 1 := ⟨_, rfl⟩
          have hj3 : (j : Int) + ((m : Int) + 2) + 1 = (p : Int) := by omega
          have hj4 : p ≤ La + 1 := by omega
          have hj5 : j ≤ p := by omega
          have hj6 : p - j = m + 2 + 1 := by omega
          have HP := hid hp
          clear hp
          have HJ := hid hj
          clear hrow hrq hrv hx
          have HO := hid (And.intro HI.out.1 HI.out.2.1)
          have hkn : j + (m + 2) < o.length := by rw [HO.out.1]; omega
          have HKN := hid hkn
          have hcap : La + 1 ≤ 9223372036854775807 := by omega
          have hdiv : NDivAt B32 (A * 2 ^ s) V (m + 2) o qs (j + 1) := by rw [hj]; exact HI.out.2.2.2.2
          have HDIV := hid hdiv
          have HUP := hid (part_u32 HRO.out HO.out.2 hkn (by rw [HO.out.1]; omega) hcap)
          have HVP : Hid (U32s (fun j => j = gv) wr (.slice (some ⟨gv, 0, none⟩) (m + 2) (m + 2 + 1)) vs) := hid (by
            have h1 := U32s.of_row HRW.out (by rw [HN.out.1]; omega) HVS.out.2 (by omega)
            rwa [HN.out.1] at h1)
          have CG := hid (div_guess (S := Old wr) _ _ _ _ m wr (HUP.out.to (Kept.refl _ _) (fun k hk => by rw [hk]; exact HRO.out.lt)) (HVP.out.to (Kept.refl _ _) (fun k hk => by rw [hk]; exact HRW.out.lt)) (fun _ h => h) (part_len hkn) HN.out.1 HN.out.2
            (top_le HO.out.2 HVS.out.2 hkn HN.out.1 HVS.out.1 hdiv.low))
          clear hkn hdiv hj
          go_wp2_with fail
          refine CG.out.mono ?_
          rintro e w7 ⟨q, r, rfl, hx7, hq7, ht7, hc7, hok7⟩
          have HX7 := hid hx7
          have HRO7 := hid (HRO.out.of_block (hx7.block gu HRO.out.lt))
          have HRQ7 := hid (HRQ.out.of_block (hx7.block gq HRQ.out.lt))
          have HRW7 := hid (HRW.out.of_block (hx7.block gv HRW.out.lt))
          have HVP7 := hid (HVP.out.to (Kept.ext hx7 (fun k hk => by rw [hk]; exact HRW.out.lt)) (fun k h => h))
          have HQ7 := hid (And.intro ht7 (And.intro hc7 hok7))
          have HQB := hid hq7
          have CO := hid (div_off (S := fun j => j = gv) (w := w7) (g := gu) (k := j) (n := m + 2) (cap := La + 1) (q := q) (o := o) (vs := vs) _ HRO7.out (by rw [HO.out.1]; omega) HO.out.2 HKN.out HVP7.out (fun k hk => ⟨by rw [hk]; exact HRW7.out.lt, by rw [hk]; have := HGV.out.2; have := HGU.out.1; omega⟩) HN.out.1 hq7 hcap)
          clear hx7 hq7 ht7 hc7 hok7 CG
          go_wp2_with fail
          refine CO.out.mono ?_
          rintro e w8 ⟨ps, b, rfl, hb1, hpl, hps, hpv, hro8, hgb8, hsz8⟩
          have HP8 := hid (And.intro hpl (And.intro hps hpv))
          have HRO8 := hid hro8
          have HGB8 := hid (And.intro hgb8 hsz8)
          have HRQ8 := hid (HRQ7.out.of_block (hgb8.block gq HRQ7.out.lt (fun e => by have := HGW.out; cases e; omega)))
          have HRW8 := hid (HRW7.out.of_block (hgb8.block gv HRW7.out.lt (fun e => by have := HGV.out.2; have := HGU.out.1; cases e; omega)))
          have HX8 := hid (ext_grown (HXQ.out.trans HX7.out) hgb8 (fun k hk => by cases hk; exact HGU.out.1))
          have HK := hid (knuth_step HO.out.2 HVS.out.2 HKN.out (by rw [HI.out.2.2.1]; omega) HN.out.1 HVS.out.1 HN.out.2 HDIV.out HQ7.out.1 HQB.out HQ7.out.2.1 HQ7.out.2.2 hb1 hpl hps hpv)
          clear hpl hps hpv hro8 hgb8 hsz8 CO
          rcases (show b = 0 ∨ b = 1 by omega) with rfl | rfl
          · have hd0 : decide ((0 : Nat) = 1) = false := rfl
            have hq32 : (q : Int) % 4294967296 = (q : Int) := by have h1 : q < 4294967296 := HQB.out; omega
            have hcq := HRQ8.out.cell (i := j) (by omega)
            have hfq := HRQ8.out.frozen j
            go_wp2
            refine ⟨⟨i + 1, putL o j ps, qs.set j q, rfl, by omega, hid ⟨?_, put_lt HO.out.2 HP8.out.2.1 j, by rw [List.length_set]; exact HI.out.2.2.1, u_set_lt HI.out.2.2.2.1 HQB.out, ?_⟩, ?_, ?_, ?_, ?_⟩, ?_⟩
            · rw [put_len (by rw [HP8.out.1]; have := HKN.out; omega)]; exact HO.out.1
            · rw [show nq - (i + 1) = j by omega]
              exact HK.out.1 (by first | rfl | trivial)
            · exact HRO8.out.setOther (by have := HGW.out; show gu ≠ gq; omega) _
            · exact rowU_set HRQ8.out j q (by rw [HI.out.2.2.1]; omega)
            · exact HRW8.out.setOther (by have h1 := HGW.out; have h2 := HGV.out.2; have h3 := HGU.out.1; show gv ≠ gq; omega) _
            · exact HX8.out.setCell HXS.out _
            · simp only [intOf]; omega
          · obtain ⟨hq0, hk⟩ := HK.out.2 rfl
            have HKK := hid hk
            obtain ⟨q', hq'⟩ : ∃ q', q' = q - 1 := ⟨_, rfl⟩
            have hq1 : (q : Int) - 1 = (q' : Int) := by omega
            have hqb' : q' < B32 := by have := HQB.out; omega
            have hq64 : IntKind.u64.wrap (q' : Int) = (q' : Int) := wrap_nat64 (Nat.lt_trans hqb' (by decide))
            have hq32 : (q' : Int) % 4294967296 = (q' : Int) := by have h1 : q' < 4294967296 := hqb'; omega
            have HQB' := hid hqb'
            have HQ' := hid hq'
            have hd0 : decide ((1 : Nat) = 1) = true := rfl
            clear hqb' hk hq'
            have hol8 : (putL o j ps).length = La + 1 := by rw [put_len (by rw [HP8.out.1]; have := HKN.out; omega)]; exact HO.out.1
            have HVP8 := hid (HVP7.out.to (S' := fun k => k = gv) (show Kept (fun k => k = gv) w7 w8 from fun k hk => by rw [hk]; exact HGB8.out.1.block gv HRW7.out.lt (fun e => by have := HGV.out.2; have := HGU.out.1; cases e; omega)) (fun k h => h))
            have CN := hid (div_on (S := fun j => j = gv) (w := w8) (g := gu) (k := j) (n := m + 2) (cap := La + 1) (o := putL o j ps) (vs := vs) (.slice (some ⟨gv, 0, none⟩) (m + 2) (m + 2 + 1)) HRO8.out (by omega) (put_lt HO.out.2 HP8.out.2.1 j) (by omega) HVP8.out (fun k hk => ⟨by rw [hk]; exact HRW8.out.lt, by rw [hk]; have := HGV.out.2; have := HGU.out.1; omega⟩) HN.out.1 hcap)
            have HOL8 := hid hol8
            clear hol8
            go_wp2_with fail
            refine CN.out.mono ?_
            rintro e w9 ⟨rs, rfl, hrl, hrs, hrv9, hro9, hgb9, hsz9⟩
            rw [part_put HKN.out HP8.out.1] at hrv9
            rw [put_put HKN.out HP8.out.1 hrl] at hro9
            have HR9 := hid (And.intro hrl (And.intro hrs hrv9))
            have HRO9 := hid hro9
            have HRQ9 := hid (HRQ8.out.of_block (hgb9.block gq HRQ8.out.lt (fun e => by have := HGW.out; cases e; omega)))
            have HRW9 := hid (HRW8.out.of_block (hgb9.block gv HRW8.out.lt (fun e => by have := HGV.out.2; have := HGU.out.1; cases e; omega)))
            have HX9 := hid (ext_grown HX8.out hgb9 (fun k hk => by cases hk; exact HGU.out.1))
            have hcq := HRQ9.out.cell (i := j) (by omega)
            have hfq := HRQ9.out.frozen j
            clear hrl hrs hrv9 hro9 hgb9 hsz9 CN
            go_wp2
            refine ⟨⟨i + 1, putL o j rs, qs.set j q', rfl, by omega, hid ⟨?_, put_lt HO.out.2 HR9.out.2.1 j, by rw [List.length_set]; exact HI.out.2.2.1, u_set_lt HI.out.2.2.2.1 HQB'.out, ?_⟩, ?_, ?_, ?_, ?_⟩, ?_⟩
            · rw [put_len (by rw [HR9.out.1]; have := HKN.out; omega)]; exact HO.out.1
            · rw [show nq - (i + 1) = j by omega, HQ'.out]
              exact HKK.out rs HR9.out.1 HR9.out.2.2
            · exact HRO9.out.setOther (by have := HGW.out; show gu ≠ gq; omega) _
            · exact rowU_set HRQ9.out j q' (by rw [HI.out.2.2.1]; omega)
            · exact HRW9.out.setOther (by have h1 := HGW.out; have h2 := HGV.out.2; have h3 := HGU.out.1; show gv ≠ gq; omega) _
            · exact HX9.out.setCell HXS.out _
            · simp only [intOf]; omega
        · obtain rfl : i = nq := by omega
          clear hrow hrq hrv hx
          obtain ⟨I1, I2, I3, I4, I5⟩ := HI.out
          rw [Nat.sub_self] at I5
          have hV0 : 0 < V := by rw [HVE.out]; exact Nat.mul_pos HD0.out (Nat.pow_pos (by decide))
          obtain ⟨dq, dr⟩ := div_whole hV0 I5
          have hs2 := div_scaled (a := A) (b := D) (c := 2 ^ s) (Nat.pow_pos (by decide))
          have hq : val B32 qs = A / D := by rw [dq, HVE.out]; exact hs2.1
          have hrest : val B32 (o.take (m + 2)) / 2 ^ s = A % D := by
            have h1 := val_split (B := B32) o (m + 2)
            rw [I1, show min (m + 2) (La + 1) = m + 2 by omega] at h1
            have hVB : V < B32 ^ (m + 2) := by rw [← HVS.out.1, ← HN.out.1]; exact val_lt vs HVS.out.2
            have h2 : val B32 o < V := by rw [dr]; exact Nat.mod_lt _ hV0
            have h3 : val B32 (o.drop (m + 2)) = 0 := by
              rcases Nat.eq_zero_or_pos (val B32 (o.drop (m + 2))) with h | h
              · exact h
              · have := Nat.le_mul_of_pos_right (B32 ^ (m + 2)) h
                omega
            rw [h3, Nat.mul_zero, Nat.add_zero] at h1
            rw [← h1, dr, HVE.out, hs2.2, Nat.mul_div_cancel _ (Nat.pow_pos (by decide))]
          have hur : U32s (Old wr) wr (.slice (some ⟨gu, 0, none⟩) (m + 2) (La + 1)) (o.take (m + 2)) := by
            have h1 := U32s.of_row HRO.out (by omega) I2 (by omega)
            rw [I1] at h1
            exact (h1.take (by omega)).to (Kept.refl _ _) (fun k hk => by rw [hk]; exact HRO.out.lt)
          have huq : U32s (fun k => k = gq) wr (.slice (some ⟨gq, 0, none⟩) i i) qs := by
            have h1 := U32s.of_row HRQ.out (by omega) I4 (by omega)
            rwa [I3] at h1
          have CR := hid (nat_shr _ _ s wr hur (fun _ h => h) (by rw [List.length_take]; omega) hs32)
          rw [hrest] at CR
          have HUQ := hid huq
          have HLQ := hid I3
          have HQV := hid hq
          clear I1 I2 I3 I4 I5 hV0 dq dr hs2 hq hrest hur huq
          go_wp2_with fail
          refine CR.out.mono ?_
          rintro e w7 ⟨v7, rfl, hu7, hx7⟩
          have HU7 := hid hu7
          have HX7 := hid hx7
          have CQ := hid (nat_trim _ _ w7 (HUQ.out.to (S' := Old w7) (Kept.ext hx7 (fun k hk => by rw [hk]; exact HRQ.out.lt)) (fun k hk => by rw [hk]; exact Nat.lt_of_lt_of_le HRQ.out.lt hx7.size)) (fun _ h => h) (by have := HLQ.out; omega))
          rw [HQV.out] at CQ
          clear hu7 hx7 CR
          go_wp2_with fail
          refine CQ.out.mono ?_
          rintro e w8 ⟨v8, rfl, hu8, hx8⟩
          have HU8 := hid hu8
          have HX8 := hid hx8
          clear hu8 hx8 CQ
          go_wp2
          all_goals
            go_ret3
            have x4 := HX4.out
            have x6 := HXQ.out
            have x7 := HX7.out
            have x8 := HX8.out
            refine ⟨_, _, rfl, HU8.out.to (Kept.refl _ _) (fun k h => ⟨Nat.le_trans (Nat.le_trans (Nat.le_trans x4.size x6.size) x7.size) h.1, h.2⟩), HU7.out.to (Kept.ext x8 (fun _ h => h.2)) (fun k h => ⟨Nat.le_trans (Nat.le_trans x4.size x6.size) h.1, Nat.lt_of_lt_of_le h.2 x8.size⟩), ((x4.trans x6).trans x7).trans x8⟩
end Go.Proofs.YtbhdgdmelepnhaaGreat

namespace Go.Proofs.YtbhdgdmelepnhaaGreat
open Go.RowKit

theorem div_mod {S : Nat → Prop} (va vb : Value) (xs ys : List Nat) (w : World) (ha : U32s S w va xs) (hb : U32s S w vb ys) (hS : ∀ k, S k → k < w.heap.size) (hr : xs.length ≤ 100000000000) (hr2 : ys.length ≤ 100000000000) (h0 : 0 < val B32 ys) :
    Calls Tryz.prog 120 #[va, vb] w (DivPost (val B32 xs) (val B32 ys) w) := by
  by_cases hlt : val B32 xs < val B32 ys
  · exact div_mod_lt va vb xs ys w ha hb hS hr hr2 hlt
  · by_cases h1 : (rep B32 (val B32 ys)).length = 1
    · exact div_mod_one va vb xs ys w ha hb hS hr hr2 (by omega) h1
    · have hl : 0 < (rep B32 (val B32 ys)).length := by
        rw [List.length_pos_iff, Ne, rep_eq_nil two_le_B32]
        omega
      exact div_mod_big va vb xs ys w ha hb hS hr hr2 (by omega) ((rep B32 (val B32 ys)).length - 2) (by omega)
end Go.Proofs.YtbhdgdmelepnhaaGreat

namespace Go.Proofs.YtbhdgdmelepnhaaGreat
open Go.RowKit

set_option maxRecDepth 100000 in
set_option maxHeartbeats 2000000 in
theorem div_exact {S : Nat → Prop} (va vb : Value) (xs ys : List Nat) (w : World) (ha : U32s S w va xs) (hb : U32s S w vb ys) (hS : ∀ k, S k → k < w.heap.size) (hr : xs.length ≤ 100000000000) (hr2 : ys.length ≤ 100000000000) (h0 : 0 < val B32 ys) (hd : val B32 xs % val B32 ys = 0) :
    Calls Tryz.prog 96 #[va, vb] w fun e w' => ∃ v', e = .returned (.tuple #[v', .int .i64 0]) ∧ U32s (New w w') w' v' (rep B32 (val B32 xs / val B32 ys)) ∧ Ext w w' := by
  have C := hid (div_mod va vb xs ys w ha hb hS hr hr2 h0)
  have HD := hid hd
  clear ha hb h0 hd
  go_enter Tryz.func96, Tryz.ntmps96
  go_wp2_with fail
  refine C.out.mono ?_
  rintro e w1 ⟨vq, vr, rfl, hq, hr1, hx⟩
  rw [HD.out, rep_zero] at hr1
  obtain ⟨a, c, rfl⟩ := hr1.form
  have HQ := hid hq
  have HX := hid hx
  clear hq hr1 hx
  go_wp2
  all_goals
    go_ret2
    exact ⟨_, rfl, HQ.out, HX.out⟩

set_option maxRecDepth 100000 in
set_option maxHeartbeats 4000000 in
theorem whole_gcd {S : Nat → Prop} (vx vy : Value) (x y : RInt) (w : World) (hx : IntV S w vx x) (hy : IntV S w vy y) (hS : ∀ k, S k → k < w.heap.size) (hr : x.mag.length ≤ 10000000000) (hr2 : y.mag.length ≤ 10000000000) :
    Calls Tryz.prog 93 #[vx, vy] w fun e w' => ∃ v', e = .returned v' ∧ IntV (New w w') w' v' (ofI (Int.gcd (valI x) (valI y) : Nat)) ∧ Ext w w' := by
  obtain ⟨xn, xs⟩ := x
  obtain ⟨yn, ys⟩ := y
  obtain ⟨vxm, rfl, hxu⟩ := hx
  obtain ⟨vym, rfl, hyu⟩ := hy
  simp only at hxu hyu hr hr2 ⊢
  have HG : Hid (Int.gcd (valI ⟨xn, xs⟩) (valI ⟨yn, ys⟩) = Nat.gcd (val B32 xs) (val B32 ys)) := hid (by
    unfold valI
    cases xn <;> cases yn <;> simp [Int.gcd])
  rw [HG.out]
  have HX := hid hxu
  have HY := hid hyu
  obtain ⟨ax, cx, rfl⟩ := hxu.form
  obtain ⟨ay, cy, rfl⟩ := hyu.form
  have HLX := hid (Nat.le_trans (lenN_le hxu.lt) hr)
  have HLY := hid (Nat.le_trans (lenN_le hyu.lt) hr2)
  clear hxu hyu
  have HK := hid (Ext.alloc (Ext.alloc (Ext.alloc (Ext.refl w) (.cells #[.bool xn, .slice ax xs.length cx] 26)) (.cells #[.bool yn, .slice ay ys.length cy] 26)) (.cells #[.bool false, .slice none 0 0] 26))
  have hsz : w.heap.size + 1 + 1 < (((w.alloc (.cells #[.bool xn, .slice ax xs.length cx] 26)).alloc (.cells #[.bool yn, .slice ay ys.length cy] 26)).alloc (.cells #[.bool false, .slice none 0 0] 26)).heap.size := by simp
  have HSZ := hid hsz
  clear hsz
  obtain ⟨b1, b2, b3, b4⟩ := blk3 (Ext.refl (((w.alloc (.cells #[.bool xn, .slice ax xs.length cx] 26)).alloc (.cells #[.bool yn, .slice ay ys.length cy] 26)).alloc (.cells #[.bool false, .slice none 0 0] 26)))
  have c2 := b1 1 _ rfl
  have c3 := b2 1 _ rfl
  clear b1 b2 b3 b4
  have S0' := drew3 c2 c3 c3
  have HS0 := hid (And.intro S0'.1 S0'.2.1)
  clear S0' c2 c3
  go_enter Tryz.func93, Tryz.ntmps93
  go_wp2
  have S0 := HS0.out
  go_region_held3 (fun W => W.cell? ⟨w.heap.size, 1, none⟩ = some (.slice ax xs.length cx) ∧ W.cell? ⟨w.heap.size + 1, 1, none⟩ = some (.slice ay ys.length cy)) (first | exact S0 | exact S1 | exact S2 | exact ⟨other (other S2.1 (ab (by omega))) (ab (by omega)), other (other S2.2 (ab (by omega))) (ab (by omega))⟩)
    (first
      | (go_at_call 119; (with_reducible refine (nat_trim (.slice ax xs.length cx) xs _ (HX.out.ext (HK.out.drew) hS) (lt_ext hS (HK.out.drew)) (by omega)).mono ?_); rintro e w1 ⟨v1, rfl, hu1, hx1⟩; have S1 := And.intro (hx1.cell S0.1) (hx1.cell S0.2); have HX1 := hid (HK.out.drew.trans hx1); have HU1 := hid (hu1.to (S' := New w w1) (Kept.refl _ _) (New.mono HK.out.drew)); have HX1' := hid hx1; obtain ⟨a1, n1, rfl⟩ := hu1.form; clear hx1 hu1)
      | (go_at_call 119; (with_reducible refine (nat_trim (.slice ay ys.length cy) ys _ (HY.out.ext HX1.out hS) (lt_ext hS HX1.out) (by omega)).mono ?_); rintro e w2 ⟨v2, rfl, hu2, hx2⟩; have S2 := And.intro (hx2.cell S1.1) (hx2.cell S1.2); have HX2 := hid (HX1.out.trans hx2); have HX2' := hid (HX1'.out.trans hx2); have HU1' := hid (HU1.out.to (S' := New w w2) (Kept.ext hx2 New.lt) (fun k h => ⟨h.1, Nat.lt_of_lt_of_le h.2 hx2.size⟩)); have HU2 := hid (hu2.to (S' := New w w2) (Kept.refl _ _) (New.mono HX1.out)); obtain ⟨a2, n2, rfl⟩ := hu2.form; clear hx2 hu2))
  all_goals
    clear S0 S1 S2
    obtain ⟨w0, hw0⟩ : ∃ W, W = (((w.alloc (.cells #[.bool xn, .slice ax xs.length cx] 26)).alloc (.cells #[.bool yn, .slice ay ys.length cy] 26)).alloc (.cells #[.bool false, .slice none 0 0] 26)).drew := ⟨_, rfl⟩
    have HB := hid (fun (W : World) (h : Ext w0 W) => by
      rw [hw0] at h
      obtain ⟨-, -, d3, d4⟩ := blk3 ((Ext.drew (Ext.refl _)).trans h)
      exact And.intro (d3 0 _ rfl) (And.intro (d3 1 _ rfl) (And.intro (d4 0) (d4 1))))
    have HSZ0 : Hid (w.heap.size + 1 + 1 < w0.heap.size) := hid (by rw [hw0]; exact HSZ.out)
    have HX0 : Hid (Ext w w0) := hid (by rw [hw0]; exact HK.out.drew)
    rw [← hw0] at HX2'
    obtain ⟨Y, hY⟩ : ∃ Y, Y = val B32 ys := ⟨_, rfl⟩
    obtain ⟨X, hX⟩ : ∃ X, X = val B32 xs := ⟨_, rfl⟩
    rw [← hX] at HU1' HLX ⊢
    rw [← hY] at HU2 HLY ⊢
    have HXE := hid hX
    have HYE := hid hY
    clear hw0 hX hY HX1' HSZ HS0 HG HK HX1 HU1
    go_wp2
    go_loopg [5, 6] Y (fun k s5 s6 wr => ∃ (A : Nat) (a b : Option Addr) (ca cb : Nat), s5 = .slice a (rep B32 A).length ca ∧ s6 = .slice b (rep B32 k).length cb ∧ Hid (Nat.gcd A k = Nat.gcd X Y ∧ lenN A ≤ 10000000000 ∧ lenN k ≤ 10000000000 ∧ U32s (New w wr) wr (.slice a (rep B32 A).length ca) (rep B32 A) ∧ U32s (New w wr) wr (.slice b (rep B32 k).length cb) (rep B32 k) ∧ Ext w0 wr))
    case atStart => exact ⟨X, a1, a2, n1, n2, rfl, rfl, hid ⟨rfl, HLX.out, HLY.out, HU1'.out, HU2.out, HX2'.out⟩⟩
    case round =>
      obtain ⟨A, a, b, ca, cb, rfl, rfl, HI⟩ := hrel
      obtain ⟨lb, hlb⟩ : ∃ l, l = (rep B32 gk).length := ⟨_, rfl⟩
      obtain ⟨la, hla⟩ : ∃ l, l = (rep B32 A).length := ⟨_, rfl⟩
      rw [← hlb, ← hla] at HI ⊢
      have HLB := hid hlb
      have HLA := hid hla
      clear hlb hla
      by_cases h0 : gk = 0
      · subst h0
        have hl0 : lb = 0 := by rw [HLB.out]; rfl
        subst hl0
        obtain ⟨I1, I2, I3, I4, I5, I6⟩ := HI.out
        rw [Nat.gcd_zero_right] at I1
        rw [HLA.out] at I4
        have CM := hid (made_rep false _ A wr I4 New.lt (by unfold lenN at I2; omega))
        rw [← HLA.out] at CM
        have HA := hid I1
        have HX6 := hid I6
        clear I1 I2 I3 I4 I5 I6
        go_wp2_with fail
        refine CM.out.mono ?_
        rintro e w3 ⟨v3, rfl, ⟨vm3, rfl, hu3⟩, hx3⟩
        obtain ⟨f0, f1, f2, f3⟩ := HB.out w3 (HX6.out.trans hx3)
        have HX3 := hid hx3
        have HU3 := hid hu3
        have HE := hid (And.intro f0 f1)
        obtain ⟨a3, n3, rfl⟩ := hu3.form
        clear hu3 hx3
        go_wp2
        all_goals
          have hd := fun x y => two_set x y HE.out.1 HE.out.2
          refine bodyPost_ret (by simp [results, Tryz.results93, go_sem, (hd _ _).1, (hd _ _).2]; rfl) rfl ?_
          have hg := ret_int3 (w0 := w) (b := w.heap.size + 1 + 1) rfl HU3.out (HX0.out.trans HX6.out) HX3.out (by omega) (Nat.lt_of_lt_of_le HSZ0.out HX6.out.size) (.bool (ofI (sg false A)).neg) (.slice a3 (ofI (sg false A)).mag.length n3)
          have e : ((Nat.gcd X Y : Nat) : Int) = sg false A := by rw [← HA.out]; rfl
          rw [← HXE.out, ← HYE.out, e]
          exact ⟨_, rfl, hg.1, hg.2⟩
      · have hl0 : 0 < lb := by
          rw [HLB.out, List.length_pos_iff, Ne, rep_eq_nil two_le_B32]
          exact h0
        obtain ⟨I1, I2, I3, I4, I5, I6⟩ := HI.out
        have hgk : 0 < gk := by omega
        have CD := hid (div_mod (S := New w wr) _ _ _ _ wr I4 I5 New.lt (by unfold lenN at I2; omega) (by unfold lenN at I3; omega) (by rw [val_rep two_le_B32]; omega))
        rw [val_rep two_le_B32, val_rep two_le_B32] at CD
        have HI1 := hid (And.intro I1 I3)
        have HI5 := hid I5
        have HX6 := hid I6
        have H0 := hid hgk
        clear h0 I1 I2 I3 I4 I5 I6 hgk
        go_wp2_with fail
        refine CD.out.mono ?_
        rintro e w3 ⟨vq, vr, rfl, hq, hr3, hx3⟩
        have HR3 := hid (hr3.to (S' := New w w3) (Kept.refl _ _) (New.mono (HX0.out.trans HX6.out)))
        have HX3 := hid hx3
        have HB3 := hid (HI5.out.to (S' := New w w3) (Kept.ext hx3 New.lt) (fun k h => ⟨h.1, Nat.lt_of_lt_of_le h.2 hx3.size⟩))
        obtain ⟨ar, nr, rfl⟩ := hr3.form
        clear hq hr3 hx3
        go_wp2
        go_roundg (A % gk)
        case measure => exact Nat.mod_lt _ H0.out
        case rel =>
          refine ⟨gk, b, ar, cb, nr, by rw [HLB.out], rfl, hid ⟨?_, HI1.out.2, ?_, ?_, HR3.out, HX6.out.trans HX3.out⟩⟩
          · rw [← HI1.out.1, Nat.gcd_comm A gk, Nat.gcd_rec gk A, Nat.gcd_comm]
          · exact Nat.le_trans (rep_mono_len (Nat.le_of_lt (Nat.mod_lt _ H0.out))) HI1.out.2
          · rw [← HLB.out]; exact HB3.out
end Go.Proofs.YtbhdgdmelepnhaaGreat

namespace Go.Proofs.YtbhdgdmelepnhaaGreat
open Go.RowKit

theorem sg_exact {xn yn : Bool} {a d : Nat} {q : Int} (hd : 0 < d) (h : sg xn a = q * sg yn d) : a % d = 0 ∧ sg (xn != yn) (a / d) = q := by
  have key : ∀ p : Int, (a : Int) = p * (d : Int) → a % d = 0 ∧ ((a / d : Nat) : Int) = p := by
    intro p hp
    have hd0 : (d : Int) ≠ 0 := by omega
    refine ⟨?_, ?_⟩
    · have h1 : ((a % d : Nat) : Int) = 0 := by rw [Int.natCast_emod, hp, Int.mul_emod_left]
      omega
    · rw [Int.natCast_ediv, hp, Int.mul_ediv_cancel _ hd0]
  unfold sg at h ⊢
  cases xn <;> cases yn <;> simp only [if_true, if_false, Bool.false_eq_true, bne_self_eq_false, Bool.true_bne, Bool.false_bne, Bool.not_true, Bool.not_false] at h ⊢
  · exact key q h
  · obtain ⟨h1, h2⟩ := key (-q) (by rw [h, Int.mul_neg, Int.neg_mul])
    exact ⟨h1, by rw [h2, Int.neg_neg]⟩
  · obtain ⟨h1, h2⟩ := key (-q) (by rw [Int.neg_mul, ← h, Int.neg_neg])
    exact ⟨h1, by rw [h2, Int.neg_neg]⟩
  · refine key q ?_
    rw [Int.mul_neg] at h
    omega

set_option maxRecDepth 100000 in
set_option maxHeartbeats 4000000 in
theorem whole_exact {S : Nat → Prop} (vx vy : Value) (x y : RInt) (w : World) (hx : IntV S w vx x) (hy : IntV S w vy y) (hS : ∀ k, S k → k < w.heap.size) (hr : x.mag.length ≤ 10000000000) (hr2 : y.mag.length ≤ 10000000000) (q : Int) (h0 : valI y ≠ 0) (hq : valI x = q * valI y) :
    Calls Tryz.prog 55 #[vx, vy] w fun e w' => ∃ v', e = .returned (.tuple #[v', .int .i64 0]) ∧ IntV (New w w') w' v' (ofI q) ∧ Ext w w' := by
  obtain ⟨xn, xs⟩ := x
  obtain ⟨yn, ys⟩ := y
  obtain ⟨vxm, rfl, hxu⟩ := hx
  obtain ⟨vym, rfl, hyu⟩ := hy
  simp only at hxu hyu hr hr2 ⊢
  have hd0 : 0 < val B32 ys := by
    rcases Nat.eq_zero_or_pos (val B32 ys) with h | h
    · exact absurd (by unfold valI; simp [h]) h0
    · exact h
  have HQ := hid (sg_exact hd0 (show sg xn (val B32 xs) = q * sg yn (val B32 ys) from hq))
  have HX := hid hxu
  have HY := hid hyu
  obtain ⟨ax, cx, rfl⟩ := hxu.form
  obtain ⟨ay, cy, rfl⟩ := hyu.form
  have HLX := hid (Nat.le_trans (lenN_le hxu.lt) hr)
  obtain ⟨w0, hw0⟩ : ∃ W, W = (((w.alloc (.cells #[.bool xn, .slice ax xs.length cx] 26)).alloc (.cells #[.bool yn, .slice ay ys.length cy] 26)).alloc (.cells #[.bool false, .slice none 0 0] 26)) := ⟨_, rfl⟩
  have HX0 : Hid (Ext w w0) := hid (by rw [hw0]; exact Ext.alloc (Ext.alloc (Ext.alloc (Ext.refl w) _) _) _)
  have HSZ : Hid (w.heap.size + 1 + 1 < w0.heap.size) := hid (by rw [hw0]; simp)
  have HB := hid (fun (W : World) (h : Ext w0 W) => by
    rw [hw0] at h
    exact blk3 h)
  have CD := hid (div_exact (S := S) (.slice ax xs.length cx) (.slice ay ys.length cy) xs ys w0 (hxu.ext HX0.out hS) (hyu.ext HX0.out hS) (lt_ext hS HX0.out) (by omega) (by omega) hd0 HQ.out.1)
  have HD0 := hid hd0
  obtain ⟨b1, b2, -, -⟩ := HB.out w0 (Ext.refl _)
  have c1 := b1 0 _ rfl
  have c2 := b1 1 _ rfl
  have c3 := b2 0 _ rfl
  have c4 := b2 1 _ rfl
  rw [hw0] at c1 c2 c3 c4 CD
  clear hxu hyu h0 hq hd0 b1 b2
  have HW0 := hid hw0
  clear hw0
  go_enter Tryz.func55, Tryz.ntmps55
  go_wp2_with fail
  refine CD.out.mono ?_
  rintro e w1 ⟨v1, rfl, hu1, hx1⟩
  rw [← HW0.out] at hu1 hx1
  obtain ⟨b1, b2, b3, b4⟩ := HB.out w1 hx1
  have d1 := b1 0 _ rfl
  have d3 := b2 0 _ rfl
  have HX1 := hid hx1
  have HL1 : Hid ((rep B32 (val B32 xs / val B32 ys)).length ≤ 50000000000000) := hid (by
    have h1 := rep_mono_len (Nat.div_le_self (val B32 xs) (val B32 ys))
    have h2 := HLX.out
    unfold lenN at h2
    omega)
  have CM := hid (made_rep (xn != yn) _ _ w1 hu1 New.lt HL1.out)
  rw [HQ.out.2] at CM
  obtain ⟨xy, hxy⟩ : ∃ b, b = (xn != yn) := ⟨_, rfl⟩
  rw [← hxy] at CM
  have hxyq : (!(xn == yn)) = xy := hxy.symm
  obtain ⟨a1, n1, rfl⟩ := hu1.form
  clear hu1 hx1 b1 b2 b3 b4 hxy
  go_wp2_with fail
  refine CM.out.mono ?_
  rintro e w2 ⟨v2, rfl, ⟨vm2, rfl, hu2⟩, hx2⟩
  obtain ⟨-, -, b3, b4⟩ := HB.out w2 (HX1.out.trans hx2)
  have e0 := b3 0 _ rfl
  have e1 := b3 1 _ rfl
  have f0 := b4 0
  have f1 := b4 1
  have HX2 := hid hx2
  have HU2 := hid hu2
  have HE := hid (And.intro e0 e1)
  obtain ⟨a2, n2, rfl⟩ := hu2.form
  clear hu2 hx2 b3 b4
  go_wp2
  all_goals
    have hd := fun x y => two_set x y HE.out.1 HE.out.2
    refine bodyPost_ret (by simp [results, Tryz.results55, go_sem, (hd _ _).1, (hd _ _).2]; rfl) rfl ?_
    have hg := ret_int3 (w0 := w) (b := w.heap.size + 1 + 1) rfl HU2.out (HX0.out.trans HX1.out) HX2.out (by omega) (Nat.lt_of_lt_of_le HSZ.out HX1.out.size) (.bool (ofI q).neg) (.slice a2 (ofI q).mag.length n2)
    exact ⟨_, rfl, hg.1, hg.2⟩
end Go.Proofs.YtbhdgdmelepnhaaGreat

namespace Go.Proofs.YtbhdgdmelepnhaaGreat
open Go.RowKit

end Go.Proofs.YtbhdgdmelepnhaaGreat

namespace Go.Proofs.YtbhdgdmelepnhaaGreat
open Go.RowKit

end Go.Proofs.YtbhdgdmelepnhaaGreat

namespace Go.Proofs.YtbhdgdmelepnhaaGreat
open Go.RowKit

end Go.Proofs.YtbhdgdmelepnhaaGreat

namespace Go.Proofs.YtbhdgdmelepnhaaGreat
open Go.RowKit

end Go.Proofs.YtbhdgdmelepnhaaGreat

namespace Go.Proofs.YtbhdgdmelepnhaaGreat
open Go.RowKit

def Strs (S : Nat → Prop) (w : World) (v : Value) (xs : List ByteArray) : Prop :=
  ∃ b off, SliceAt S v xs.length b off ∧ ∀ j x, xs[j]? = some x → w.cell? ⟨b, off + j, none⟩ = some (.string x)
section
variable {S S' : Nat → Prop} {w w' : World} {v : Value} {xs : List ByteArray}
theorem Strs.form (h : Strs S w v xs) : ∃ a cap, v = .slice a xs.length cap := by
  obtain ⟨b, off, ⟨a, cap, h1, _⟩, _⟩ := h
  exact ⟨a, cap, h1⟩
theorem Strs.to (h : Strs S w v xs) (hk : Kept S w w') (hS : ∀ k, S k → S' k) : Strs S' w' v xs := by
  obtain ⟨b, off, hs, hc⟩ := h
  exact ⟨b, off, hs.mono hS, fun j z hz => hk.cell (hs.in (lt_of_some hz)) (hc j z hz)⟩
theorem Strs.ext (h : Strs S w v xs) (hx : Ext w w') (hS : ∀ k, S k → k < w.heap.size) : Strs S w' v xs := h.to (Kept.ext hx hS) (fun _ h => h)
theorem Strs.len_le (h : Strs S w v xs) : xs.length ≤ 9223372036854775807 := by
  obtain ⟨b, off, ⟨a, cap, -, h2, h3, -, -⟩, -⟩ := h
  unfold maxLen at h3
  omega
theorem Strs.cellAt {a : Option Addr} {n cap k : Nat} {x : ByteArray} (h : Strs S w (.slice a n cap) xs) (hx : xs[k]? = some x) :
    ∃ b off, a = some ⟨b, off, none⟩ ∧ n = xs.length ∧ n ≤ cap ∧ cap ≤ 9223372036854775807 ∧ S b ∧ w.cell? ⟨b, off + k, none⟩ = some (.string x) := by
  obtain ⟨b, off, ⟨a', cap', h1, h2, h3, h4, h5⟩, hc⟩ := h
  obtain ⟨rfl, rfl, rfl⟩ : a = a' ∧ n = xs.length ∧ cap = cap' := by simpa using h1
  have hlt : 0 < xs.length := by have := lt_of_some hx; omega
  exact ⟨b, off, h4 hlt, rfl, h2, by simpa [maxLen] using h3, h5 hlt, hc k x hx⟩
end
def posS : List ByteArray → ByteArray → Option Nat
  | [], _ => none
  | z :: zs, x => if z = x then some 0 else (posS zs x).map (· + 1)
theorem posS_hit {x : ByteArray} : ∀ {zs : List ByteArray} {k : Nat}, zs[k]? = some x → (∀ y ∈ zs.take k, y ≠ x) → posS zs x = some k
  | [], k, h, _ => by simp at h
  | z :: zs, 0, h, _ => by
    have : z = x := by simpa using h
    simp [posS, this]
  | z :: zs, k + 1, h, hn => by
    have hz : z ≠ x := hn z (by simp)
    have := posS_hit (zs := zs) (k := k) (by simpa using h) (fun y hy => hn y (by simp [hy]))
    simp [posS, hz, this]
theorem posS_miss {x : ByteArray} : ∀ {zs : List ByteArray}, (∀ y ∈ zs, y ≠ x) → posS zs x = none
  | [], _ => rfl
  | z :: zs, hn => by
    have hz : z ≠ x := hn z (by simp)
    have := posS_miss (zs := zs) (fun y hy => hn y (by simp [hy]))
    simp [posS, hz, this]
def idxI (zs : List ByteArray) (x : ByteArray) : Int := match posS zs x with
  | some k => k
  | none => -1
theorem str_eq {x y : ByteArray} (h : x = y) : (x.toList == y.toList) = true := by rw [h, beq_self_eq_true]
theorem str_ne {x y : ByteArray} (h : x ≠ y) : (x.toList == y.toList) = false := by
  rw [beq_eq_false_iff_ne, ByteArray.toList_eq, ByteArray.toList_eq]
  exact fun e => h (ByteArray.ext (Array.toList_inj.mp e))

set_option maxRecDepth 100000 in
set_option maxHeartbeats 4000000 in
theorem index_str {S : Nat → Prop} {w : World} {v : Value} {xs : List ByteArray} (h : Strs S w v xs) (x : ByteArray) (hS : ∀ k, S k → k < w.heap.size) :
    Calls Tryz.prog 99 #[v, .string x] w fun e w' => e = .returned (.int .i64 (idxI xs x)) ∧ Ext w w' := by
  have H := hid h
  have hl := h.len_le
  obtain ⟨a, c, rfl⟩ := h.form
  obtain ⟨n, hn⟩ : ∃ n, n = xs.length := ⟨_, rfl⟩
  rw [← hn] at H hl ⊢
  have HN := hid hn
  clear h hn
  go_enter Tryz.func99, Tryz.ntmps99
  go_wp2
  go_loopw [5, 8] (fun _ i wr => ∃ k : Nat, k ≤ n ∧ i = .int .i64 k ∧ Ext w wr ∧ Hid (∀ y ∈ xs.take k, y ≠ x)) (fun _ i _ => n - (intOf i).toNat)
  case atStart => exact ⟨0, Nat.zero_le _, rfl, Ext.refl _, fun y hy => by simp at hy⟩
  case round =>
    obtain ⟨k, hk, rfl, hx, HE⟩ := hrel
    have HX := hid hx
    by_cases hlt : k < n
    · obtain ⟨y, hy⟩ := some_of_lt (l := xs) (j := k) (by rw [← HN.out]; exact hlt)
      obtain ⟨b1, o1, rfl, -, hc1, hm1, -, h1⟩ := (H.out.ext hx hS).cellAt hy
      have HY := hid hy
      clear hy hx
      by_cases he : x = y
      · have q1 := str_eq he
        have H0 := hid he
        clear he
        go_wp2
        go_ret
        exact ⟨by unfold idxI; rw [posS_hit (by rw [HY.out, H0.out]) HE.out]; rfl, HX.out⟩
      · have q1 := str_ne he
        have H0 := hid he
        clear he
        go_wp2
        go_roundw
        case rel => exact ⟨k + 1, by omega, by go_num, HX.out, fun z hz => by
          rw [List.take_add_one, HY.out] at hz
          rcases List.mem_append.1 hz with hz | hz
          · exact HE.out z hz
          · have : z = y := by simpa using hz
            rw [this]; exact fun e => H0.out e.symm⟩
        case measure => simp only [intOf]; omega
    · obtain rfl : k = n := by omega
      have HF : Hid (idxI xs x = -1) := hid (by
        have := HE.out
        rw [List.take_of_length_le (by rw [← HN.out]; exact Nat.le_refl _)] at this
        unfold idxI; rw [posS_miss this])
      clear hx
      go_wp2
      go_ret
      exact ⟨by rw [HF.out]; rfl, HX.out⟩

set_option maxRecDepth 100000 in
set_option maxHeartbeats 4000000 in
theorem equal_str {S : Nat → Prop} (va vb : Value) (xs ys : List ByteArray) (w : World) (ha : Strs S w va xs) (hb : Strs S w vb ys) (hS : ∀ k, S k → k < w.heap.size) :
    Calls Tryz.prog 57 #[va, vb] w fun e w' => e = .returned (.bool (decide (xs = ys))) ∧ Ext w w' := by
  have HA := hid ha
  have HB := hid hb
  have hla := ha.len_le
  have hlb := hb.len_le
  obtain ⟨aa, ca, rfl⟩ := ha.form
  obtain ⟨ab, cb, rfl⟩ := hb.form
  obtain ⟨na, hna⟩ : ∃ n, n = xs.length := ⟨_, rfl⟩
  obtain ⟨nb, hnb⟩ : ∃ n, n = ys.length := ⟨_, rfl⟩
  rw [← hna] at HA hla ⊢
  rw [← hnb] at HB hlb ⊢
  have HNA := hid hna
  have HNB := hid hnb
  clear ha hb hna hnb
  by_cases hne : na = nb
  · subst hne
    go_enter Tryz.func57, Tryz.ntmps57
    go_wp2
    go_loopw [5, 13] (fun _ i wr => ∃ k : Nat, k ≤ na ∧ i = .int .i64 k ∧ Ext w wr ∧ Hid (xs.take k = ys.take k)) (fun _ i _ => na - (intOf i).toNat)
    case atStart => exact ⟨0, Nat.zero_le _, rfl, Ext.refl _, rfl⟩
    case round =>
      obtain ⟨k, hk, rfl, hx, HE⟩ := hrel
      have HX := hid hx
      by_cases hlt : k < na
      · obtain ⟨x, hxk⟩ := some_of_lt (l := xs) (j := k) (by rw [← HNA.out]; exact hlt)
        obtain ⟨y, hyk⟩ := some_of_lt (l := ys) (j := k) (by rw [← HNB.out]; exact hlt)
        obtain ⟨b1, o1, rfl, -, hc1, hm1, hz1, h1⟩ := (HA.out.ext hx hS).cellAt hxk
        obtain ⟨b2, o2, rfl, -, hc2, hm2, hz2, h2⟩ := (HB.out.ext hx hS).cellAt hyk
        have HXK := hid hxk
        have HYK := hid hyk
        clear hxk hyk hx
        by_cases he : x = y
        · have q1 := str_eq he
          have q2 : (x.toList != y.toList) = false := by rw [bne, q1]; rfl
          have H0 := hid he
          clear he
          go_wp2
          go_quiet (fail)
          go_wp2
          go_roundw
          case rel => exact ⟨k + 1, by omega, by go_num, HX.out.drewN _, take_eq_succ HE.out HXK.out (by rw [H0.out]; exact HYK.out)⟩
          case measure => simp only [intOf]; omega
        · have q1 := str_ne he
          have q2 : (x.toList != y.toList) = true := by rw [bne, q1]; rfl
          have HF : Hid (xs ≠ ys) := hid (ne_of_at HXK.out HYK.out he)
          clear he
          go_wp2
          go_quiet (fail)
          go_wp2
          go_ret
          exact ⟨by rw [decide_eq_false HF.out]; rfl, HX.out.drewN _⟩
      · obtain rfl : k = na := by omega
        have HF : Hid (xs = ys) := hid (by have := HE.out; rwa [List.take_of_length_le (by rw [← HNA.out]; exact Nat.le_refl _), List.take_of_length_le (by rw [← HNB.out]; exact Nat.le_refl _)] at this)
        clear hx
        go_wp2
        go_ret
        exact ⟨by rw [decide_eq_true HF.out]; rfl, HX.out⟩
  · have hb : ((na : Int) != (nb : Int)) = true := by rw [bne_iff_ne]; omega
    have HF : Hid (xs ≠ ys) := hid (fun e => hne (by rw [HNA.out, HNB.out, e]))
    clear hne
    go_enter Tryz.func57, Tryz.ntmps57
    go_wp2
    go_ret
    exact ⟨by rw [decide_eq_false HF.out]; rfl, Ext.refl _⟩
end Go.Proofs.YtbhdgdmelepnhaaGreat

namespace Go.Proofs.YtbhdgdmelepnhaaGreat
open Go.RowKit

theorem sg_not (b : Bool) (n : Nat) : sg (!b) n = - sg b n := by
  unfold sg
  cases b <;> simp
set_option maxRecDepth 100000 in
set_option maxHeartbeats 4000000 in
theorem whole_neg {S : Nat → Prop} (vx : Value) (x : RInt) (w : World) (hx : IntV S w vx x) (hS : ∀ k, S k → k < w.heap.size) (hr : x.mag.length ≤ 50000000000000) :
    Calls Tryz.prog 54 #[vx] w fun e w' => ∃ v', e = .returned v' ∧ IntV (New w w') w' v' (ofI (- valI x)) ∧ Ext w w' := by
  obtain ⟨xn, xs⟩ := x
  obtain ⟨vxm, rfl, hxu⟩ := hx
  simp only at hxu hr ⊢
  have HX := hid hxu
  obtain ⟨ax, cx, rfl⟩ := hxu.form
  have HQ : Hid (- valI ⟨xn, xs⟩ = sg (!xn) (val B32 xs)) := hid (by rw [sg_not]; rfl)
  rw [HQ.out]
  obtain ⟨w0, hw0⟩ : ∃ W, W = (w.alloc (.cells #[.bool xn, .slice ax xs.length cx] 26)).alloc (.cells #[.bool false, .slice none 0 0] 26) := ⟨_, rfl⟩
  have HX0 : Hid (Ext w w0) := hid (by rw [hw0]; exact Ext.alloc (Ext.alloc (Ext.refl w) _) _)
  have HSZ : Hid (w.heap.size + 1 < w0.heap.size) := hid (by rw [hw0]; simp)
  have HB := hid (fun (W : World) (h : Ext w0 W) => by
    rw [hw0] at h
    have e1 := h.new_cell (i := 0) (v := .bool false) rfl
    have e2 := h.new_cell (i := 1) (v := .slice none 0 0) rfl
    have e3 := h.new_free 0
    have e4 := h.new_free 1
    rw [size_alloc] at e1 e2 e3 e4
    exact And.intro e1 (And.intro e2 (And.intro e3 e4)))
  have CM := hid (whole_made (!xn) (.slice ax xs.length cx) xs w0 (hxu.ext HX0.out hS) (lt_ext hS HX0.out) hr)
  obtain ⟨nx, hnx⟩ : ∃ b, b = (!xn) := ⟨_, rfl⟩
  rw [← hnx] at CM ⊢
  have hnot : (!xn) = nx := hnx.symm
  rw [hw0] at CM
  have HW0 := hid hw0
  clear hxu hw0 hnx
  go_enter Tryz.func54, Tryz.ntmps54
  go_wp2_with fail
  refine CM.out.mono ?_
  rintro e w2 ⟨v2, rfl, ⟨vm2, rfl, hu2⟩, hx2⟩
  rw [← HW0.out] at hu2 hx2
  obtain ⟨e0, e1, f0, f1⟩ := HB.out w2 hx2
  have HX2 := hid hx2
  have HU2 := hid hu2
  have HE := hid (And.intro e0 e1)
  obtain ⟨a2, n2, rfl⟩ := hu2.form
  clear hu2 hx2
  go_wp2
  all_goals
    have hd := fun x y => two_set x y HE.out.1 HE.out.2
    refine bodyPost_ret (by simp [results, Tryz.results54, go_sem, (hd _ _).1, (hd _ _).2]; rfl) rfl ?_
    have hg := ret_int3 (w0 := w) (b := w.heap.size + 1) rfl HU2.out HX0.out HX2.out (by omega) HSZ.out (.bool (ofI (sg nx (val B32 xs))).neg) (.slice a2 (ofI (sg nx (val B32 xs))).mag.length n2)
    exact ⟨_, rfl, hg.1, hg.2⟩
end Go.Proofs.YtbhdgdmelepnhaaGreat

namespace Go.Proofs.YtbhdgdmelepnhaaGreat
open Go.RowKit

theorem free2 {w : World} {b : Nat} {c : Addr} (h : w.frozen? c = false) (x y : Value) : ((w.setCell ⟨b, 0, none⟩ x).setCell ⟨b, 1, none⟩ y).frozen? c = false := free_set (free_set h)
theorem abs_valI (r : RInt) : (valI r).natAbs = val B32 r.mag := by
  unfold valI
  split <;> simp
theorem u_set2 {S : Nat → Prop} {w : World} {b : Nat} {v : Value} {zs : List Nat} (h : U32s S w v zs) (hb : ¬ S b) (x y : Value) : U32s S ((w.setCell ⟨b, 0, none⟩ x).setCell ⟨b, 1, none⟩ y) v zs := h.to (Kept.set2 hb _ _) (fun _ h => h)
end Go.Proofs.YtbhdgdmelepnhaaGreat

namespace Go.Proofs.YtbhdgdmelepnhaaGreat
open Go.RowKit Go.Deep Go.ChangeShapes Go.WideShapes

theorem list_of_lt {α : Type} {n : Nat} {p : Nat → α → Prop} (h : ∀ i, i < n → ∃ x, p i x) : ∃ l : List α, l.length = n ∧ ∀ i x, l[i]? = some x → p i x := by
  induction n with
  | zero => exact ⟨[], rfl, fun i x hx => by simp at hx⟩
  | succ n ih =>
    obtain ⟨l, hl, hp⟩ := ih (fun i hi => h i (Nat.lt_succ_of_lt hi))
    obtain ⟨x, hx⟩ := h n (Nat.lt_succ_self n)
    refine ⟨l ++ [x], by simp [hl], fun i y hy => ?_⟩
    rw [List.getElem?_append] at hy
    split at hy
    · exact hp i y hy
    · rename_i hi
      have : i = n := by
        have := lt_of_some hy
        simp at this
        omega
      subst this
      simp [hl] at hy
      exact hy ▸ hx

theorem list_two {α : Type} {l : List α} (h : l.length = 2) : ∃ a b, l = [a, b] := by
  match l, h with
  | [a, b], _ => exact ⟨a, b, rfl⟩
theorem list_three {α : Type} {l : List α} (h : l.length = 3) : ∃ a b c, l = [a, b, c] := by
  match l, h with
  | [a, b, c], _ => exact ⟨a, b, c, rfl⟩

section
variable {H : Type} {enc : TypeId × Value → H} {w : World} {base : Nat} {spare : Nat → Bool} {held : Bool}

/-- A slice that is read: where its elements lie, each with its own reading. -/
theorem open_slice_at {t e : TypeId} {fuel sz : Nat} {v : Value} {x : DataW H × List MemPlace} (ht : Tryz.prog.underlying t = some (.slice e)) (hsz : Tryz.prog.cellsOf e = sz) (hpos : 0 < sz)
    (h : DataW.trod enc Tryz.prog w base spare held fuel t [v] = some x) :
    ∃ (n b off fuel' : Nat), SliceAt (· < w.heap.size) v n b off ∧ ∀ j, j < n → ∃ (cs : List Value) (y : DataW H × List MemPlace), cs.length = sz ∧ (∀ i, i < sz → w.cell? ⟨b, off + j * sz + i, none⟩ = cs[i]?) ∧ DataW.trod enc Tryz.prog w base spare held fuel' e cs = some y := by
  rcases open_slice ht h with ⟨hcs, _⟩ | ⟨a, len, cap, m, fuel', D, Pl, hcs, hb, hl, hm, hmm, _, hx⟩
  · obtain rfl : v = .slice none 0 0 := by simpa using hcs
    exact ⟨0, 0, 0, 0, ⟨none, 0, rfl, Nat.le_refl _, Nat.zero_le _, fun h => absurd h (by omega), fun h => absurd h (by omega)⟩, fun j hj => absurd hj (by omega)⟩
  · obtain rfl : v = .slice (some a) len cap := by simpa using hcs
    rw [hsz] at hx
    have hlm : len ≤ m := by rw [hmm]; split <;> omega
    have key : ∀ j, j < len → ∃ (cs : List Value) (y : DataW H × List MemPlace), cs.length = sz ∧ (∀ i, i < sz → w.cell? ((a.add (j * sz)).add i) = cs[i]?) ∧ DataW.trod enc Tryz.prog w base spare held fuel' e cs = some y := by
      intro j hj
      obtain ⟨cs, h1, h2⟩ := hx j (by omega)
      obtain ⟨_, h3, h4⟩ := World.cells?_some h1
      exact ⟨cs, _, h3, h4, h2⟩
    by_cases h0 : 0 < len
    · have hsp : a.spot = none := by
        obtain ⟨cs, _, h3, h4, _⟩ := key 0 h0
        have h5 := h4 0 hpos
        have e0 : (a.add (0 * sz)).add 0 = a := by simp [Addr.add]
        rw [e0, List.getElem?_eq_getElem (by omega)] at h5
        unfold World.cell? at h5
        split at h5
        · cases hs : a.spot with
          | none => rfl
          | some z => simp [hs] at h5
        · exact absurd h5 (by simp)
      obtain ⟨b, off, spot⟩ := a
      obtain rfl : spot = none := hsp
      have add_eq : ∀ j i, ((⟨b, off, none⟩ : Addr).add (j * sz)).add i = ⟨b, off + j * sz + i, none⟩ := by
        intro j i
        unfold Addr.add
        by_cases h1 : j * sz = 0 <;> by_cases h2 : i = 0 <;> simp [h1, h2]
      refine ⟨len, b, off, fuel', ⟨_, cap, rfl, hl, hm, fun _ => rfl, fun _ => ?_⟩, fun j hj => ?_⟩
      · obtain ⟨cs, _, h3, h4, _⟩ := key 0 h0
        have h5 := h4 0 hpos
        rw [add_eq, List.getElem?_eq_getElem (by omega)] at h5
        exact lt_of_cell h5
      · obtain ⟨cs, y, h3, h4, h5⟩ := key j hj
        exact ⟨cs, y, h3, fun i hi => by rw [← add_eq]; exact h4 i hi, h5⟩
    · exact ⟨len, 0, 0, fuel', ⟨_, cap, rfl, hl, hm, fun h => absurd h h0, fun h => absurd h h0⟩, fun j hj => absurd hj (by omega)⟩

theorem bounds_i64 {n : Int} (h : (Lit.int .i64 n).wf = true) : -9223372036854775808 ≤ n ∧ n ≤ 9223372036854775807 := by
  simpa [Lit.wf, IntKind.min, IntKind.max, IntKind.signed, IntKind.bits] using h
theorem bounds_u32 {n : Int} (h : (Lit.int .u32 n).wf = true) : 0 ≤ n ∧ n < 4294967296 := by
  have : 0 ≤ n ∧ n ≤ 4294967295 := by simpa [Lit.wf, IntKind.min, IntKind.max, IntKind.signed, IntKind.bits] using h
  omega

theorem Tryz.cells_u32 : Tryz.prog.cellsOf 119 = 1 := by kernel_rfl
theorem Tryz.cells_power : Tryz.prog.cellsOf 51 = 2 := by kernel_rfl
theorem Tryz.cells_term : Tryz.prog.cellsOf 49 = 3 := by kernel_rfl
theorem Tryz.cells_int : Tryz.prog.cellsOf 26 = 2 := by kernel_rfl
theorem Tryz.cells_mono : Tryz.prog.cellsOf 47 = 1 := by kernel_rfl
theorem Tryz.cells_bool : Tryz.prog.cellsOf 4 = 1 := by kernel_rfl
theorem Tryz.cells_i64 : Tryz.prog.cellsOf 3 = 1 := by kernel_rfl
theorem Tryz.cells_su32 : Tryz.prog.cellsOf 24 = 1 := by kernel_rfl

theorem open_u32s {fuel : Nat} {v : Value} {x : DataW H × List MemPlace} (h : DataW.trod enc Tryz.prog w base spare held fuel 24 [v] = some x) : ∃ zs, U32s (· < w.heap.size) w v zs := by
  obtain ⟨n, b, off, f', hs, hx⟩ := open_slice_at Tryz.underlying24 Tryz.cells_u32 (by omega) h
  obtain ⟨zs, hl, hz⟩ := list_of_lt (p := fun j (z : Nat) => z < 4294967296 ∧ w.cell? ⟨b, off + j, none⟩ = some (.int .u32 (z : Nat))) (n := n) (fun j hj => by
    obtain ⟨cs, y, h1, h2, h3⟩ := hx j hj
    obtain ⟨m, rfl, _, hw⟩ := DataW.trod_int Tryz.underlying119 h3
    have := bounds_u32 hw
    have h4 := h2 0 (by omega)
    refine ⟨m.toNat, by omega, ?_⟩
    simp only [Nat.mul_one, Nat.add_zero] at h4
    rw [h4]
    simp
    omega)
  subst hl
  exact ⟨zs, b, off, hs, hz⟩

theorem open_pows {fuel : Nat} {v : Value} {x : DataW H × List MemPlace} (h : DataW.trod enc Tryz.prog w base spare held fuel 47 [v] = some x) : ∃ ps, Pows (· < w.heap.size) w v ps := by
  obtain ⟨n, b, off, f', hs, hx⟩ := open_slice_at Tryz.underlying47 Tryz.cells_power (by omega) h
  obtain ⟨ps, hl, hp⟩ := list_of_lt (p := fun j (x : Int × Int) => ((-9223372036854775808 ≤ x.1 ∧ x.1 ≤ 9223372036854775807) ∧ -9223372036854775808 ≤ x.2 ∧ x.2 ≤ 9223372036854775807) ∧
    w.cell? ⟨b, off + j * 2, none⟩ = some (.int .i64 x.1) ∧ w.cell? ⟨b, off + j * 2 + 1, none⟩ = some (.int .i64 x.2)) (n := n) (fun j hj => by
    obtain ⟨cs, y, h1, h2, h3⟩ := hx j hj
    obtain ⟨y0, y1, m, _, _, g0, g1⟩ := trod_struct2 Tryz.underlying51 h3
    obtain ⟨n0, e0, _, w0⟩ := DataW.trod_int Tryz.underlying3 g0
    obtain ⟨n1, e1, _, w1⟩ := DataW.trod_int Tryz.underlying3 g1
    obtain ⟨c0, c1, rfl⟩ := list_two h1
    simp [Tryz.cells_i64] at e0 e1
    subst e0 e1
    exact ⟨(n0, n1), ⟨bounds_i64 w0, bounds_i64 w1⟩, h2 0 (by omega), h2 1 (by omega)⟩)
  subst hl
  exact ⟨ps, b, off, hs, hp⟩

theorem open_terms {fuel : Nat} {v : Value} {x : DataW H × List MemPlace} (h : DataW.trod enc Tryz.prog w base spare held fuel 23 [v] = some x) : ∃ ts, Terms (· < w.heap.size) w v ts := by
  obtain ⟨n, b, off, f', hs, hx⟩ := open_slice_at Tryz.underlying23 Tryz.cells_term (by omega) h
  obtain ⟨ts, hl, hp⟩ := list_of_lt (p := fun j (t : RTerm) => ∃ vm vo, w.cell? ⟨b, off + j * 3, none⟩ = some (.bool t.c.neg) ∧
    w.cell? ⟨b, off + j * 3 + 1, none⟩ = some vm ∧ w.cell? ⟨b, off + j * 3 + 2, none⟩ = some vo ∧ U32s (· < w.heap.size) w vm t.c.mag ∧ Pows (· < w.heap.size) w vo t.m) (n := n) (fun j hj => by
    obtain ⟨cs, y, h1, h2, h3⟩ := hx j hj
    obtain ⟨y0, y1, m, _, _, g0, g1⟩ := trod_struct2 Tryz.underlying49 h3
    obtain ⟨c0, c1, c2, rfl⟩ := list_three h1
    simp [Tryz.cells_int, Tryz.cells_mono] at g0 g1
    obtain ⟨z0, z1, m', _, _, k0, k1⟩ := trod_struct2 Tryz.underlying26 g0
    simp [Tryz.cells_bool, Tryz.cells_su32] at k0 k1
    obtain ⟨ng, e0, _⟩ := DataW.trod_bool Tryz.underlying4 k0
    simp at e0
    subst e0
    obtain ⟨zs, hzs⟩ := open_u32s k1
    obtain ⟨ps, hps⟩ := open_pows g1
    exact ⟨⟨⟨ng, zs⟩, ps⟩, c1, c2, h2 0 (by omega), h2 1 (by omega), h2 2 (by omega), hzs, hps⟩)
  subst hl
  exact ⟨ts, b, off, hs, hp⟩
end
end Go.Proofs.YtbhdgdmelepnhaaGreat

namespace Go.Proofs.YtbhdgdmelepnhaaGreat
open Go.RowKit Go.Deep Go.ChangeShapes Go.WideShapes Go.ChangeAt

theorem Tryz.own : ownKnob Tryz.prog.godebug = none := by kernel_rfl
theorem Tryz.laidOut : laidOutB Tryz.prog = true := by kernel_rfl

theorem trodAll_below {H : Type} {enc : TypeId × Value → H} {W W' : World} (hb : Below W.heap.size W W') :
    ∀ {ts : List TypeId} {vs : List Value} {ds : List (DataW H)} {p : List MemPlace}, (∀ t ∈ ts, Tryz.prog.readableRec t = true ∧ t < Tryz.prog.types.size) → (∀ x ∈ p, x.block < W.heap.size) →
    DataW.TrodAll enc Tryz.prog W 0 (fun _ => true) true ts vs ds p → DataW.TrodAll enc Tryz.prog W' 0 (fun b => decide (b < W.heap.size)) true ts vs ds p := by
  intro ts
  induction ts with
  | nil =>
    intro vs ds p _ _ h
    cases vs <;> cases ds <;> first | exact h | exact h.elim
  | cons t ts ih =>
    intro vs ds p ht hlt h
    cases vs with
    | nil => exact h.elim
    | cons v vs =>
      cases ds with
      | nil => exact h.elim
      | cons d ds =>
        obtain ⟨p1, q1, h1, h2, rfl⟩ := h
        refine ⟨p1, q1, ?_, ih (fun x hx => ht x (List.mem_cons_of_mem _ hx)) (fun x hx => hlt x (List.mem_append_right _ hx)) h2, rfl⟩
        exact Below.trod Tryz.laidOut (ht t (List.mem_cons_self)).1 (ht t (List.mem_cons_self)).2 h1 hb (fun x hx => hlt x (List.mem_append_left _ hx))

/-- the arguments that are read -/
theorem law_post {H : Type} {enc : TypeId × Value → H} {F : Func} {s : ChangeSpec} {W W' : World} {args : Array Value} {ds gs : List (DataW H)} {before : List MemPlace}
    (hW : DataW.Whole enc Tryz.prog F.params.toList s.vars false W args.toList ds gs before) (hv : s.vars = []) (hr : F.resultTypes = #[4])
    (hs : s.fn H (ds ++ gs) = { results := [.lit (.bool true)], args := ds }) (ht : ∀ t ∈ F.params.toList, Tryz.prog.readableRec t = true ∧ t < Tryz.prog.types.size)
    (hb : Below W.heap.size W W') : s.post enc Tryz.prog F false true false false W args (.bool true) W' := by
  have hlt := fun p hp => hW.lt p hp
  have hW' := hW
  obtain ⟨p, q, hA, hV, rfl, _, _⟩ := hW
  rw [hv] at hV
  obtain ⟨rfl, rfl⟩ := trodVars_none hV
  refine ⟨ds, _, _, [], p, [], hW', ?_, ?_, ?_, hb.frame _, fun h => by cases h⟩
  · rw [hs, hr]
    exact trodAll_mk1 (shut_bool Tryz.underlying4 true)
  · rw [hs]
    exact trodAll_below hb ht (fun x hx => hlt x (List.mem_append_left _ hx)) hA
  · rw [hs, hv]
    rfl
end Go.Proofs.YtbhdgdmelepnhaaGreat

namespace Go.Proofs.YtbhdgdmelepnhaaGreat
open Go.RowKit Go.Deep Go.ChangeShapes Go.WideShapes Go.ChangeAt

set_option maxRecDepth 100000 in
theorem slice_cells {t e : TypeId} {W : World} {base : Nat} {v : Value} (ht : Tryz.prog.underlying t = some (.slice e)) (hv : Value.okWide Tryz.prog W .any base t v) : v.cells.toList = [v] := by
  obtain ⟨a, len, cap, rfl⟩ := okWide_slice ht hv
  rfl
section
variable {H : Type} {enc : TypeId × Value → H} {w : World} {base : Nat} {spare : Nat → Bool} {held : Bool}
end

end Go.Proofs.YtbhdgdmelepnhaaGreat

namespace Go.Proofs.YtbhdgdmelepnhaaGreat
open Go.RowKit

end Go.Proofs.YtbhdgdmelepnhaaGreat
