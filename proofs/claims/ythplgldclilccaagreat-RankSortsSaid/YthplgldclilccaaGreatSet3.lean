/- The merge in place of two neighbours, at terms: one element ahead, or one behind. The merge in place of two neighbours, at terms. The stable sort in place, at terms: blocks of twenty, then merges. An array of all variables' exponents, by value and in memory. The document's monomials: which may be, their exponents. The document's monomials: the array of all exponents. The document's monomials: order, class, degree. The document's monomials: class, degree, out of exponents. The document's product of monomials. -/
import Derived.Deep.DeepCutAuto
import Derived.Deep.WholeRow
import Derived.Deep.MidRow
import Derived.Deep.OwnRows
import Derived.ChangeKeysEq
import Derived.StillTailTactics
import Derived.Test.YthplgldclilccaaGreatSet2
namespace Go.Proofs.YthplgldclilccaaGreat
open Go.RowKit Go.Sort

section
variable {α : Type} {le : α → α → Bool}
theorem SortedL.le_at {B : List α} (h : SortedL le B) {i j : Nat} {x y : α} (hx : B[i]? = some x) (hy : B[j]? = some y) (hij : i < j) : le x y = true := by
  obtain ⟨h1, rfl⟩ := List.getElem?_eq_some_iff.1 hx
  obtain ⟨h2, rfl⟩ := List.getElem?_eq_some_iff.1 hy
  exact List.pairwise_iff_getElem.1 h i j h1 h2 hij
theorem take_mem_at {B : List α} {t : Nat} {y : α} (h : y ∈ B.take t) : ∃ k, k < t ∧ B[k]? = some y := by
  obtain ⟨k, hk⟩ := List.getElem?_of_mem h
  rw [List.getElem?_take] at hk
  split at hk
  · exact ⟨k, by assumption, hk⟩
  · cases hk
theorem drop_mem_at {B : List α} {t : Nat} {y : α} (h : y ∈ B.drop t) : ∃ k, t ≤ k ∧ B[k]? = some y := by
  obtain ⟨k, hk⟩ := List.getElem?_of_mem h
  rw [List.getElem?_drop] at hk
  exact ⟨t + k, by omega, hk⟩
theorem cut_low (hl : TotalLe le) {B : List α} (h : SortedL le B) {x : α} {t : Nat} (h1 : t = 0 ∨ ∃ z, B[t - 1]? = some z ∧ le x z = false) : ∀ y ∈ B.take t, le x y = false := by
  intro y hy
  obtain ⟨k, hk, hky⟩ := take_mem_at hy
  rcases h1 with rfl | ⟨z, hz, hzx⟩
  · omega
  · rcases (show k = t - 1 ∨ k < t - 1 by omega) with rfl | hlt
    · rw [hky] at hz
      cases hz
      exact hzx
    · exact hl.not_of' hzx (h.le_at hky hz hlt)
theorem cut_high (hl : TotalLe le) {B : List α} (h : SortedL le B) {x : α} {t : Nat} (h1 : t = B.length ∨ ∃ z, B[t]? = some z ∧ le x z = true) : ∀ y ∈ B.drop t, le x y = true := by
  intro y hy
  obtain ⟨k, hk, hky⟩ := drop_mem_at hy
  rcases h1 with rfl | ⟨z, hz, hzx⟩
  · have := lt_of_some hky; omega
  · rcases (show k = t ∨ t < k by omega) with rfl | hlt
    · rw [hky] at hz
      cases hz
      exact hzx
    · exact hl.trans _ _ _ hzx (h.le_at hz hky hlt)
theorem cut_low' (hl : TotalLe le) {B : List α} (h : SortedL le B) {x : α} {t : Nat} (h1 : t = 0 ∨ ∃ z, B[t - 1]? = some z ∧ le z x = true) : ∀ y ∈ B.take t, le y x = true := by
  intro y hy
  obtain ⟨k, hk, hky⟩ := take_mem_at hy
  rcases h1 with rfl | ⟨z, hz, hzx⟩
  · omega
  · rcases (show k = t - 1 ∨ k < t - 1 by omega) with rfl | hlt
    · rw [hky] at hz
      cases hz
      exact hzx
    · exact hl.trans _ _ _ (h.le_at hky hz hlt) hzx
theorem cut_high' (hl : TotalLe le) {B : List α} (h : SortedL le B) {x : α} {t : Nat} (h1 : t = B.length ∨ ∃ z, B[t]? = some z ∧ le z x = false) : ∀ y ∈ B.drop t, le y x = false := by
  intro y hy
  obtain ⟨k, hk, hky⟩ := drop_mem_at hy
  rcases h1 with rfl | ⟨z, hz, hzx⟩
  · have := lt_of_some hky; omega
  · rcases (show k = t ∨ t < k by omega) with rfl | hlt
    · rw [hky] at hz
      cases hz
      exact hzx
    · exact hl.not_of hzx (h.le_at hz hky hlt)
theorem mid_at {P B T : List α} {a i : Nat} (ha : a = P.length) (hi : i < B.length) : (P ++ B ++ T)[a + i]? = B[i]? := by
  rw [List.append_assoc, List.getElem?_append_right (by omega), show a + i - P.length = i by omega, List.getElem?_append_left hi]
end

section
variable {α : Type} [Inhabited α] {tc : α → TCell} {w : World} {b o : Nat} {cf : α → α → Int} {le : α → α → Bool}

set_option maxRecDepth 100000 in
set_option maxHeartbeats 4000000 in
theorem sym_one_t {cap l : Nat} {a m e : Nat} (P B T : List α) (x : α) (cur : List α) (W : World) (hc : CmpT 120 tc cf w b) (hcl : CmpLe cf le) (hcur : cur = P ++ x :: B ++ T) (hl : l = cur.length) (ha : a = P.length) (hm : m = a + 1) (he : e = a + 1 + B.length)
    (h : SortAt (encT tc) 3 w b o cur W) (hB : SortedL le B) (_hcap : l ≤ cap) (hcap2 : l ≤ 1000000000000) :
    Calls Tryz.prog 153 #[.slice (some ⟨b, o, none⟩) l cap, .int .i64 a, .int .i64 m, .int .i64 e, .func (.func 120) #[] #[]] W
      fun r w' => r = .returned (.tuple #[]) ∧ SortAt (encT tc) 3 w b o (P ++ mergeL le [x] B ++ T) w' := by
  have H := hid h
  have HC := hid hc
  have HL := hid hcl
  have HCUR := hid hcur
  have HLL := hid hl
  have HA := hid ha
  have hml : e ≤ l := by rw [hl, hcur, he, ha]; simp; omega
  have hae : m ≤ e := by omega
  have HM := hid hm
  have HE := hid he
  clear h hc hcl hcur hl ha he
  have hm1 : m ≤ a + 1 := by omega
  have hm2 : a + 1 ≤ m := by omega
  have q0 : ((m : Int) - (a : Int) == 1) = true := by rw [beq_iff_eq]; omega
  clear hm
  have gx : cur[a]? = some x := by rw [HCUR.out, HA.out, show P ++ x :: B ++ T = P ++ x :: (B ++ T) by simp]; exact at_len _ _ _
  have HGX := hid gx
  clear gx
  go_enter Tryz.func153, Tryz.ntmps153
  go_wp2
  go_loopw [10, 11] (fun vi vj wr => ∃ i j : Nat, vi = .int .i64 i ∧ vj = .int .i64 j ∧ m ≤ i ∧ i ≤ j ∧ j ≤ e ∧ Hid (i = m ∨ ∃ z, cur[i - 1]? = some z ∧ le x z = false) ∧ Hid (j = e ∨ ∃ z, cur[j]? = some z ∧ le x z = true) ∧ SortAt (encT tc) 3 w b o cur wr) (fun vi vj _ => (intOf vj).toNat - (intOf vi).toNat)
  case atStart => exact ⟨m, e, rfl, rfl, Nat.le_refl _, hae, Nat.le_refl _, .inl rfl, .inl rfl, H.out⟩
  case round =>
    obtain ⟨i, j, rfl, rfl, hmi, hij, hje, HI, HJ, hs⟩ := hrel
    have HS := hid hs
    by_cases hlt : i < j
    · obtain ⟨h, hh⟩ : ∃ h, h = (i + j) / 2 := ⟨_, rfl⟩
      have hh1 : i ≤ h := by omega
      have hh2 : h < j := by omega
      obtain ⟨z, hz⟩ := some_of_lt (l := cur) (j := h) (by rw [← HLL.out]; omega)
      have HZ := hid hz
      have q1 : ((i : Int) + (j : Int)) / 2 = (h : Int) := by omega
      have L0 := fun Y : Later wr => (hs.later Y.h).get3 hz
      have L1 := fun Y : Later wr => (hs.later Y.h).get3 HGX.out
      have LC := fun Y : Later wr => HC.out Y.w' (hs.later Y.h).grown z x
      have a0 := fun Y => (L0 Y).1.1
      have a1 := fun Y => (L0 Y).1.2.1
      have a2 := fun Y => (L0 Y).1.2.2
      have b0 := fun Y => (L1 Y).1.1
      have b1 := fun Y => (L1 Y).1.2.1
      have b2 := fun Y => (L1 Y).1.2.2
      obtain ⟨r1, r2⟩ := HL.out.range z x
      have HLE := hid (HL.out.eq z x)
      have HH := hid hh
      generalize cf z x = c at *
      have HLC := hid LC
      clear L0 L1 LC hs hz hh
      have q2 : (h : Int) < (l : Int) := by omega
      have q3 : (a : Int) < (l : Int) := by omega
      by_cases hcc : c < 0
      · go_wp2
        refine wp_region_later (by kernel_rfl) (by kernel_rfl) ?_
        repeat (go_big_quiet_step (first | (go_at_call 120; exact Later.done (HLC.out _))))
        refine wpQuiet_nil ?_
        intro W2 hW2
        clear a0 a1 a2 b0 b1 b2
        have HD2 := hid (HS.out.later hW2)
        clear hW2
        go_wp2
        go_roundw
        case rel =>
          refine ⟨h + 1, j, by go_num, rfl, by omega, by omega, hje, .inr ⟨z, by rw [Nat.add_sub_cancel]; exact HZ.out, ?_⟩, HJ, HD2.out⟩
          rw [HLE.out]; exact decide_eq_false (by omega)
        case measure => simp only [intOf]; omega
      · have q4 : ¬ c < 0 := hcc
        go_wp2
        refine wp_region_later (by kernel_rfl) (by kernel_rfl) ?_
        repeat (go_big_quiet_step (first | (go_at_call 120; exact Later.done (HLC.out _))))
        refine wpQuiet_nil ?_
        intro W2 hW2
        clear a0 a1 a2 b0 b1 b2
        have HD2 := hid (HS.out.later hW2)
        clear hW2
        go_wp2
        go_roundw
        case rel =>
          refine ⟨i, h, rfl, rfl, hmi, hh1, by omega, HI, .inr ⟨z, HZ.out, ?_⟩, HD2.out⟩
          rw [HLE.out]; exact decide_eq_true (by omega)
        case measure => simp only [intOf]; omega
    · obtain rfl : i = j := by omega
      obtain ⟨t, ht⟩ : ∃ t, t = i - m := ⟨_, rfl⟩
      have htB : t ≤ B.length := by have := HE.out; omega
      have hcur' : ∀ k, k < B.length → cur[m + k]? = B[k]? := fun k hk => by
        rw [HCUR.out, show P ++ x :: B ++ T = (P ++ [x]) ++ B ++ T by simp]
        exact mid_at (by have := HA.out; simp; omega) hk
      have e1 := cut_low HL.out.total hB (x := x) (t := t) (by
        rcases HI.out with h | ⟨z, h1, h2⟩
        · exact .inl (by omega)
        · rcases (show t = 0 ∨ 0 < t by omega) with h0 | h0
          · exact .inl h0
          · refine .inr ⟨z, ?_, h2⟩
            rw [← hcur' _ (by omega), ← h1]
            congr 1
            omega)
      have e2 := cut_high HL.out.total hB (x := x) (t := t) (by
        rcases HJ.out with h | ⟨z, h1, h2⟩
        · exact .inl (by have := HE.out; omega)
        · rcases (show t = B.length ∨ t < B.length by omega) with h0 | h0
          · exact .inl h0
          · refine .inr ⟨z, ?_, h2⟩
            rw [← hcur' _ h0, ← h1]
            congr 1
            omega)
      have hmg := mergeL_put' e1 e2
      rw [List.take_append_drop] at hmg
      have HMG := hid hmg
      have hb1 : (B.take t).length = t := by rw [List.length_take]; omega
      have HB := hid (List.take_append_drop t B)
      generalize B.take t = B1 at *
      generalize B.drop t = B2 at *
      have HB1 := hid hb1
      have HT := hid ht
      have hti : i = a + t + 1 := by omega
      have HTI := hid hti
      have hs0 := HS.out
      rw [HCUR.out, ← HB.out] at hs0
      have HS0 := hid hs0
      have hil : i ≤ l := by omega
      clear hs hcur' e1 e2 hmg hb1 ht hti hs0 htB
      go_wp2
      go_loopw [13] (fun vk wr => ∃ (k : Nat) (C1 C2 : List α), vk = .int .i64 k ∧ k < i ∧ Hid (k = a + C1.length) ∧ Hid (B1 = C1 ++ C2) ∧ SortAt (encT tc) 3 w b o (P ++ C1 ++ x :: C2 ++ B2 ++ T) wr) (fun vk _ => i - (intOf vk).toNat)
      case atStart => exact ⟨a, [], B1, rfl, by omega, rfl, rfl, by simpa using HS0.out⟩
      case round =>
        obtain ⟨k, C1, C2, rfl, hki, HK, HC12, hs⟩ := hrel
        have HS := hid hs
        clear hs
        by_cases hlt : k + 1 < i
        · cases C2 with
          | nil =>
            exfalso
            have h1 := HC12.out
            have h2 := HB1.out
            have h3 := HK.out
            have h4 := HTI.out
            rw [h1] at h2
            simp at h2
            omega
          | cons y C2 =>
            have hk := HK.out
            have hk' : k = (P ++ C1).length := by rw [hk, HA.out]; simp
            have g0 : (P ++ C1 ++ x :: (y :: C2) ++ B2 ++ T)[k]? = some x := by
              rw [hk', show P ++ C1 ++ x :: (y :: C2) ++ B2 ++ T = (P ++ C1) ++ x :: (y :: C2 ++ B2 ++ T) by simp]
              exact at_len _ _ _
            have g1 : (P ++ C1 ++ x :: (y :: C2) ++ B2 ++ T)[k + 1]? = some y := by
              rw [hk', show (P ++ C1).length + 1 = (P ++ C1 ++ [x]).length by simp; omega, show P ++ C1 ++ x :: (y :: C2) ++ B2 ++ T = (P ++ C1 ++ [x]) ++ y :: (C2 ++ B2 ++ T) by simp]
              exact at_len _ _ _
            obtain ⟨⟨c0, c1, c2⟩, f0, f1, f2⟩ := HS.out.get3 g0
            obtain ⟨⟨d0, d1, d2⟩, k0, k1, k2⟩ := HS.out.get3 g1
            have HD := hid (HS.out.swap3 g0 g1 (d' := P ++ C1 ++ y :: x :: C2 ++ B2 ++ T) (by
              have e := swp_up (P ++ C1) [] (C2 ++ B2 ++ T) x y
              rw [hk']
              simp only [List.append_assoc, List.cons_append, List.nil_append, List.length_nil, Nat.add_zero] at e ⊢
              exact e))
            clear g0 g1 hk hk'
            have q1 : (k : Int) + 1 < (l : Int) := by omega
            have q2 : (k : Int) < (l : Int) := by omega
            have q3 : (0 : Int) ≤ (k : Int) + 1 := by omega
            have q5 : ((k : Int) + 1).toNat = k + 1 := by omega
            have q6 : (k : Int) < (i : Int) - 1 := by omega
            go_wp2
            go_big_region
            all_goals go_wp2
            go_roundw
            case rel =>
              refine ⟨k + 1, C1 ++ [y], C2, by go_num, hlt, ?_, ?_, ?_⟩
              · show _ = _; have := HK.out; simp; omega
              · show _ = _; rw [HC12.out]; simp
              · have := HD.out.drew
                simpa using this
            case measure => simp only [intOf]; omega
        · have hC2 : C2 = [] := by
            have h1 := HC12.out
            have h2 := HB1.out
            have h3 := HK.out
            have h4 := HTI.out
            rw [h1] at h2
            simp at h2
            exact List.length_eq_zero_iff.1 (by omega)
          subst hC2
          have HF : Hid (SortAt (encT tc) 3 w b o (P ++ mergeL le [x] B ++ T) wr) := by
            have := HS.out
            rw [HMG.out, HC12.out]
            exact hid (by simpa using this)
          have q6 : ¬ (k : Int) < (i : Int) - 1 := by omega
          go_wp2
          (try simp only [Exit.inBlock, Exit.then]); refine bodyPost_ret (results_none rfl _ _ _) rfl ?_
          exact ⟨rfl, by first | (with_reducible exact HF.out) | (rw [← List.append_assoc]; with_reducible exact HF.out)⟩

set_option maxRecDepth 100000 in
set_option maxHeartbeats 4000000 in
theorem sym_last_t {cap l : Nat} {a m e : Nat} (P A T : List α) (x : α) (cur : List α) (W : World) (hc : CmpT 120 tc cf w b) (hcl : CmpLe cf le) (hcur : cur = P ++ A ++ x :: T) (hl : l = cur.length) (ha : a = P.length) (hm : m = a + A.length) (he : e = m + 1) (hA2 : 2 ≤ A.length)
    (h : SortAt (encT tc) 3 w b o cur W) (hA : SortedL le A) (_hcap : l ≤ cap) (hcap2 : l ≤ 1000000000000) :
    Calls Tryz.prog 153 #[.slice (some ⟨b, o, none⟩) l cap, .int .i64 a, .int .i64 m, .int .i64 e, .func (.func 120) #[] #[]] W
      fun r w' => r = .returned (.tuple #[]) ∧ SortAt (encT tc) 3 w b o (P ++ mergeL le A [x] ++ T) w' := by
  have hnot : ∀ (x : Bool) (w : World), (Op.unary .not (.bool x)).run Tryz.prog w = .ok (.bool (!x)) w := fun _ _ => rfl
  have H := hid h
  have HC := hid hc
  have HL := hid hcl
  have HCUR := hid hcur
  have HLL := hid hl
  have HA := hid ha
  have hml : e ≤ l := by rw [hl, hcur, he, hm, ha]; simp; omega
  have hae : a + 2 ≤ m := by omega
  have HM := hid hm
  have hem : m < e := by omega
  have q0 : ((m : Int) - (a : Int) == 1) = false := by rw [beq_eq_false_iff_ne]; omega
  have q00 : ((e : Int) - (m : Int) == 1) = true := by rw [beq_iff_eq]; omega
  have hmm : (P ++ A).length = m := by rw [hm, ha]; simp
  clear h hc hcl hcur hl ha he hm hA2
  have gx : cur[m]? = some x := by rw [HCUR.out, ← hmm]; exact at_len _ _ _
  have HGX := hid gx
  have HMM := hid hmm
  clear gx hmm
  go_enter Tryz.func153, Tryz.ntmps153
  go_wp2
  go_loopw [14, 15] (fun vi vj wr => ∃ i j : Nat, vi = .int .i64 i ∧ vj = .int .i64 j ∧ a ≤ i ∧ i ≤ j ∧ j ≤ m ∧ Hid (i = a ∨ ∃ z, cur[i - 1]? = some z ∧ le z x = true) ∧ Hid (j = m ∨ ∃ z, cur[j]? = some z ∧ le z x = false) ∧ SortAt (encT tc) 3 w b o cur wr) (fun vi vj _ => (intOf vj).toNat - (intOf vi).toNat)
  case atStart => exact ⟨a, m, rfl, rfl, Nat.le_refl _, by omega, Nat.le_refl _, .inl rfl, .inl rfl, H.out⟩
  case round =>
    obtain ⟨i, j, rfl, rfl, hmi, hij, hje, HI, HJ, hs⟩ := hrel
    have HS := hid hs
    by_cases hlt : i < j
    · obtain ⟨h, hh⟩ : ∃ h, h = (i + j) / 2 := ⟨_, rfl⟩
      have hh1 : i ≤ h := by omega
      have hh2 : h < j := by omega
      obtain ⟨z, hz⟩ := some_of_lt (l := cur) (j := h) (by rw [← HLL.out]; omega)
      have HZ := hid hz
      have q1 : ((i : Int) + (j : Int)) / 2 = (h : Int) := by omega
      have L0 := fun Y : Later wr => (hs.later Y.h).get3 hz
      have L1 := fun Y : Later wr => (hs.later Y.h).get3 HGX.out
      have LC := fun Y : Later wr => HC.out Y.w' (hs.later Y.h).grown x z
      have a0 := fun Y => (L0 Y).1.1
      have a1 := fun Y => (L0 Y).1.2.1
      have a2 := fun Y => (L0 Y).1.2.2
      have b0 := fun Y => (L1 Y).1.1
      have b1 := fun Y => (L1 Y).1.2.1
      have b2 := fun Y => (L1 Y).1.2.2
      obtain ⟨r1, r2⟩ := HL.out.range x z
      have HLE := hid (HL.out.eq x z)
      have HH := hid hh
      generalize cf x z = c at *
      have HLC := hid LC
      clear L0 L1 LC hs hz hh
      have q2 : (h : Int) < (l : Int) := by omega
      have q3 : (m : Int) < (l : Int) := by omega
      by_cases hcc : c < 0
      · go_wp2
        refine wp_region_later (by kernel_rfl) (by kernel_rfl) ?_
        repeat (go_big_quiet_step (first | (go_at_call 120; exact Later.done (HLC.out _))))
        refine wpQuiet_nil ?_
        intro W2 hW2
        clear a0 a1 a2 b0 b1 b2
        have HD2 := hid (HS.out.later hW2)
        clear hW2
        go_wp2
        go_roundw
        case rel =>
          refine ⟨i, h, rfl, rfl, hmi, hh1, by omega, HI, .inr ⟨z, HZ.out, ?_⟩, HD2.out⟩
          rw [HLE.out]; exact decide_eq_false (by omega)
        case measure => simp only [intOf]; omega
      · have q4 : decide (c < 0) = false := decide_eq_false hcc
        have q5 : c + 1 > 0 := by omega
        have HCC := hid hcc
        clear hcc
        go_wp2
        refine wp_region_later (by kernel_rfl) (by kernel_rfl) ?_
        repeat (go_big_quiet_step (first | (go_at_call 120; exact Later.done (HLC.out _))))
        refine wpQuiet_nil ?_
        intro W2 hW2
        clear a0 a1 a2 b0 b1 b2
        have HD2 := hid (HS.out.later hW2)
        clear hW2
        go_wp2
        go_roundw
        case rel =>
          refine ⟨h + 1, j, by go_num, rfl, by omega, by omega, hje, .inr ⟨z, by rw [Nat.add_sub_cancel]; exact HZ.out, ?_⟩, HJ, HD2.out⟩
          rw [HLE.out]; exact decide_eq_true (by have := HCC.out; omega)
        case measure => simp only [intOf]; omega
    · obtain rfl : i = j := by omega
      obtain ⟨t, ht⟩ : ∃ t, t = i - a := ⟨_, rfl⟩
      have htB : t ≤ A.length := by have := HM.out; omega
      have hcur' : ∀ k, k < A.length → cur[a + k]? = A[k]? := fun k hk => by
        rw [HCUR.out]
        exact mid_at HA.out hk
      have e1 := cut_low' HL.out.total hA (x := x) (t := t) (by
        rcases HI.out with h | ⟨z, h1, h2⟩
        · exact .inl (by omega)
        · rcases (show t = 0 ∨ 0 < t by omega) with h0 | h0
          · exact .inl h0
          · refine .inr ⟨z, ?_, h2⟩
            rw [← hcur' _ (by omega), ← h1]
            congr 1
            omega)
      have e2 := cut_high' HL.out.total hA (x := x) (t := t) (by
        rcases HJ.out with h | ⟨z, h1, h2⟩
        · exact .inl (by have := HM.out; omega)
        · rcases (show t = A.length ∨ t < A.length by omega) with h0 | h0
          · exact .inl h0
          · refine .inr ⟨z, ?_, h2⟩
            rw [← hcur' _ h0, ← h1]
            congr 1
            omega)
      have hmg := mergeL_put e1 e2
      rw [List.take_append_drop] at hmg
      have HMG := hid hmg
      have hb1 : (A.take t).length = t := by rw [List.length_take]; omega
      have HB := hid (List.take_append_drop t A)
      generalize A.take t = A1 at *
      generalize A.drop t = A2 at *
      have HB1 := hid hb1
      have HT := hid ht
      have hti : i = a + t := by omega
      have HTI := hid hti
      have hs0 := HS.out
      rw [HCUR.out, ← HB.out] at hs0
      have HS0 := hid hs0
      have hil : i ≤ l := by omega
      clear hs hcur' e1 e2 hmg hb1 ht hti hs0 htB
      go_wp2
      go_loopw [17] (fun vk wr => ∃ (k : Nat) (C1 C2 : List α), vk = .int .i64 k ∧ i ≤ k ∧ k ≤ m ∧ Hid (k = i + C1.length) ∧ Hid (A2 = C1 ++ C2) ∧ SortAt (encT tc) 3 w b o (P ++ A1 ++ C1 ++ x :: C2 ++ T) wr) (fun vk _ => (intOf vk).toNat - i)
      case atStart => exact ⟨m, A2, [], rfl, by omega, Nat.le_refl _, by have h1 := HM.out; have h2 := HTI.out; have h3 := HB1.out; have h4 := congrArg List.length HB.out; simp at h4; show _ = _; omega, by show _ = _; simp, by simpa using HS0.out⟩
      case round =>
        obtain ⟨k, C1, C2, rfl, hki, hkm, HK, HC12, hs⟩ := hrel
        have HS := hid hs
        clear hs
        by_cases hlt : i < k
        · rcases (show C1 = [] ∨ ∃ L z, C1 = L ++ [z] by simpa using List.eq_nil_or_concat C1) with rfl | ⟨C1, y, rfl⟩
          · exfalso
            have h3 := HK.out
            simp at h3
            omega
          · have hk := HK.out
            obtain ⟨kp, rfl⟩ : ∃ kp, k = kp + 1 := ⟨k - 1, by omega⟩
            have hk' : kp = (P ++ A1 ++ C1).length := by have h1 := HTI.out; have h2 := HA.out; have h3 := HB1.out; simp at hk ⊢; omega
            have g1 : (P ++ A1 ++ (C1 ++ [y]) ++ x :: C2 ++ T)[kp]? = some y := by
              rw [hk', show P ++ A1 ++ (C1 ++ [y]) ++ x :: C2 ++ T = (P ++ A1 ++ C1) ++ y :: (x :: C2 ++ T) by simp]
              exact at_len _ _ _
            have g0 : (P ++ A1 ++ (C1 ++ [y]) ++ x :: C2 ++ T)[kp + 1]? = some x := by
              rw [hk', show (P ++ A1 ++ C1).length + 1 = (P ++ A1 ++ C1 ++ [y]).length by simp; omega, show P ++ A1 ++ (C1 ++ [y]) ++ x :: C2 ++ T = (P ++ A1 ++ C1 ++ [y]) ++ x :: (C2 ++ T) by simp]
              exact at_len _ _ _
            obtain ⟨⟨c0, c1, c2⟩, f0, f1, f2⟩ := HS.out.get3 g0
            obtain ⟨⟨d0, d1, d2⟩, k0, k1, k2⟩ := HS.out.get3 g1
            have HD := hid (HS.out.swap3 g0 g1 (d' := P ++ A1 ++ C1 ++ x :: y :: C2 ++ T) (by
              have e := swp_down (P ++ A1 ++ C1) [] (C2 ++ T) y x
              rw [hk']
              simp only [List.append_assoc, List.cons_append, List.nil_append, List.length_nil, Nat.add_zero] at e ⊢
              exact e))
            clear g0 g1 hk hk'
            have q1 : (kp : Int) + 1 < (l : Int) := by omega
            have q2 : (kp : Int) < (l : Int) := by omega
            have q3 : (0 : Int) ≤ (kp : Int) + 1 := by omega
            have q5 : ((kp : Int) + 1).toNat = kp + 1 := by omega
            have q7 : (i : Int) < (kp : Int) + 1 := by omega
            go_wp2
            go_big_region
            all_goals go_wp2
            go_roundw
            case rel =>
              refine ⟨kp, C1, y :: C2, rfl, by omega, by omega, ?_, ?_, ?_⟩
              · show _ = _; have := HK.out; simp at this; omega
              · show _ = _; rw [HC12.out]; simp
              · have := HD.out.drew
                simpa using this
            case measure => simp only [intOf]; omega
        · have hC1 : C1 = [] := by
            have h3 := HK.out
            exact List.length_eq_zero_iff.1 (by omega)
          subst hC1
          have HF : Hid (SortAt (encT tc) 3 w b o (P ++ mergeL le A [x] ++ T) wr) := by
            have := HS.out
            rw [HMG.out, HC12.out]
            exact hid (by simpa using this)
          go_wp2
          (try simp only [Exit.inBlock, Exit.then]); refine bodyPost_ret (results_none rfl _ _ _) rfl ?_
          exact ⟨rfl, by first | (with_reducible exact HF.out) | (rw [← List.append_assoc]; with_reducible exact HF.out)⟩
end
end Go.Proofs.YthplgldclilccaaGreat

namespace Go.Proofs.YthplgldclilccaaGreat
open Go.RowKit Go.Sort

def symGood (a m e d lo hi : Nat) : Prop := (d < m ∧ lo + e = d + m ∧ hi = d) ∨ (m ≤ d ∧ lo = a ∧ hi = m)
section
variable {α : Type} {le : α → α → Bool}
theorem sym_split (hl : TotalLe le) {P A B T cur : List α} (hA : SortedL le A) (hB : SortedL le B) (hcur : cur = P ++ A ++ B ++ T) {a m e d s f lo hi : Nat} (ha : a = P.length) (hm : m = a + A.length) (he : e = m + B.length) (hd : d = (a + e) / 2)
    (hg : symGood a m e d lo hi) (hls : lo ≤ s) (hsh : s ≤ hi) (hf : f + s = d + m)
    (h1 : s = lo ∨ ∃ x z, cur[s - 1]? = some x ∧ cur[f]? = some z ∧ le x z = true) (h2 : s = hi ∨ ∃ x z, cur[s]? = some x ∧ cur[f - 1]? = some z ∧ le x z = false) :
    ∃ A1 A2 B1 B2, A = A1 ++ A2 ∧ B = B1 ++ B2 ∧ s = a + A1.length ∧ f = m + B1.length ∧ mergeL le A B = mergeL le A1 B1 ++ mergeL le A2 B2 := by
  have hsb : a ≤ s ∧ s ≤ m ∧ m ≤ f ∧ f ≤ e := by unfold symGood at hg; omega
  have atA : ∀ k, k < A.length → cur[a + k]? = A[k]? := fun k hk => by
    rw [hcur, List.append_assoc]
    exact mid_at ha hk
  have atB : ∀ k, k < B.length → cur[m + k]? = B[k]? := fun k hk => by
    rw [hcur]
    exact mid_at (by simp; omega) hk
  have hA1 : (A.take (s - a)).length = s - a := by rw [List.length_take]; omega
  have hB1 : (B.take (f - m)).length = f - m := by rw [List.length_take]; omega
  refine ⟨A.take (s - a), A.drop (s - a), B.take (f - m), B.drop (f - m), (List.take_append_drop _ _).symm, (List.take_append_drop _ _).symm, by omega, by omega, ?_⟩
  conv => lhs; rw [← List.take_append_drop (s - a) A, ← List.take_append_drop (f - m) B]
  refine mergeL_split _ _ _ _ ?_ ?_
  · intro x hx y hy
    obtain ⟨k, hk, hkx⟩ := take_mem_at hx
    obtain ⟨k', hk', hky⟩ := drop_mem_at hy
    have hkB := lt_of_some hky
    rcases h1 with h1 | ⟨x0, z0, g1, g2, g3⟩
    · unfold symGood at hg; omega
    · have e1 : A[s - a - 1]? = some x0 := by rw [← atA _ (by omega), ← g1]; congr 1; omega
      have e2 : B[f - m]? = some z0 := by rw [← atB _ (by omega), ← g2]; congr 1; omega
      have := cut_low' hl hA (x := z0) (t := s - a) (.inr ⟨x0, e1, g3⟩) x hx
      exact cut_high hl hB (x := x) (t := f - m) (.inr ⟨z0, e2, this⟩) y hy
  · intro y hy x hx
    obtain ⟨k, hk, hky⟩ := take_mem_at hy
    obtain ⟨k', hk', hkx⟩ := drop_mem_at hx
    have hkA := lt_of_some hkx
    rcases h2 with h2 | ⟨x0, z0, g1, g2, g3⟩
    · unfold symGood at hg; omega
    · have e1 : A[s - a]? = some x0 := by rw [← atA _ (by omega), ← g1]; congr 1; omega
      have e2 : B[f - m - 1]? = some z0 := by rw [← atB _ (by omega), ← g2]; congr 1; omega
      have := cut_low hl hB (x := x0) (t := f - m) (.inr ⟨z0, e2, g3⟩) y hy
      exact cut_high' hl hA (x := y) (t := s - a) (.inr ⟨x0, e1, this⟩) x hx
end

section
variable {α : Type} [Inhabited α] {tc : α → TCell} {w : World} {b o : Nat} {cf : α → α → Int} {le : α → α → Bool}

set_option maxRecDepth 100000 in
set_option maxHeartbeats 8000000 in
theorem sym_step_t {cap l : Nat} {a m e : Nat} (P A B T : List α) (cur : List α) (W : World) (hc : CmpT 120 tc cf w b) (hcl : CmpLe cf le) (hcur : cur = P ++ A ++ B ++ T) (hl : l = cur.length) (ha : a = P.length) (hm : m = a + A.length) (he : e = m + B.length) (hA2 : 2 ≤ A.length) (hB2 : 2 ≤ B.length)
    (ih : ∀ (P A' B' T cur : List α) (W : World) (l a m e : Nat), A'.length + B'.length < A.length + B.length → 0 < A'.length → 0 < B'.length → SortedL le A' → SortedL le B' → cur = P ++ A' ++ B' ++ T → l = cur.length → a = P.length → m = a + A'.length → e = m + B'.length → SortAt (encT tc) 3 w b o cur W → l ≤ cap → l ≤ 1000000000000 →
      Calls Tryz.prog 153 #[.slice (some ⟨b, o, none⟩) l cap, .int .i64 a, .int .i64 m, .int .i64 e, .func (.func 120) #[] #[]] W
        fun r w' => r = .returned (.tuple #[]) ∧ SortAt (encT tc) 3 w b o (P ++ mergeL le A' B' ++ T) w')
    (h : SortAt (encT tc) 3 w b o cur W) (hA : SortedL le A) (hB : SortedL le B) (hcap : l ≤ cap) (hcap2 : l ≤ 1000000000000) :
    Calls Tryz.prog 153 #[.slice (some ⟨b, o, none⟩) l cap, .int .i64 a, .int .i64 m, .int .i64 e, .func (.func 120) #[] #[]] W
      fun r w' => r = .returned (.tuple #[]) ∧ SortAt (encT tc) 3 w b o (P ++ mergeL le A B ++ T) w' := by
  have hnot : ∀ (x : Bool) (w : World), (Op.unary .not (.bool x)).run Tryz.prog w = .ok (.bool (!x)) w := fun _ _ => rfl
  have H := hid h
  have HC := hid hc
  have HL := hid hcl
  have HIH := hid ih
  have HCUR := hid hcur
  have HLL := hid hl
  have HA := hid ha
  have hml : e ≤ l := by rw [hl, hcur, he, hm, ha]; simp; omega
  have hae : a + 2 ≤ m := by omega
  have HM := hid hm
  have HE := hid he
  have hem : m + 2 ≤ e := by omega
  have q0 : ((m : Int) - (a : Int) == 1) = false := by rw [beq_eq_false_iff_ne]; omega
  have q00 : ((e : Int) - (m : Int) == 1) = false := by rw [beq_eq_false_iff_ne]; omega
  obtain ⟨d, hd⟩ : ∃ d, d = (a + e) / 2 := ⟨_, rfl⟩
  have q1 : ((a : Int) + (e : Int)) / 2 = (d : Int) := by omega
  have HD := hid hd
  have had : a < d := by omega
  have hde : d < e := by omega
  have hd2 : 2 * d ≤ a + e ∧ a + e ≤ 2 * d + 1 := by omega
  obtain ⟨hd21, hd22⟩ := hd2
  clear h hc hcl hcur hl ha he hm hA2 hB2 ih hd
  have hcase : (d < m ∧ ∃ lo : Nat, lo + e = d + m) ∨ m ≤ d := by
    rcases (show d < m ∨ m ≤ d by omega) with h | h
    · exact .inl ⟨h, d + m - e, by omega⟩
    · exact .inr h
  rcases hcase with ⟨hdm, lo0, hlo⟩ | hdm
  · have q2 : (d : Int) + (m : Int) - (e : Int) = (lo0 : Int) := by omega
    have HG : Hid (symGood a m e d lo0 d) := .inl ⟨hdm, hlo, rfl⟩
    have q3 : (m : Int) > (d : Int) := by omega
    have hlh : lo0 ≤ d := by omega
    go_enter Tryz.func153, Tryz.ntmps153
    go_wp2
    go_loopw [20, 21] (fun vi vj wr => ∃ i j lo hi : Nat, vi = .int .i64 i ∧ vj = .int .i64 j ∧ Hid (symGood a m e d lo hi) ∧ lo ≤ i ∧ i ≤ j ∧ j ≤ hi ∧ Hid (i = lo ∨ ∃ x z, cur[i - 1]? = some x ∧ cur[d + m - i]? = some z ∧ le x z = true) ∧ Hid (j = hi ∨ ∃ x z, cur[j]? = some x ∧ cur[d + m - j - 1]? = some z ∧ le x z = false) ∧ SortAt (encT tc) 3 w b o cur wr) (fun vi vj _ => (intOf vj).toNat - (intOf vi).toNat)
    case atStart => exact ⟨lo0, d, lo0, d, rfl, rfl, HG, Nat.le_refl _, hlh, Nat.le_refl _, .inl rfl, .inl rfl, H.out⟩
    case round =>
      clear HG q2 q3 hlh hlo hdm
      obtain ⟨i, j, lo, hi, rfl, rfl, HG, hli, hij, hjh, HI, HJ, hs⟩ := hrel
      have HS := hid hs
      have hb : a ≤ lo ∧ hi ≤ m ∧ hi ≤ d ∧ d + m ≤ lo + e := by have := HG.out; unfold symGood at this; omega
      obtain ⟨hb1, hb2, hb3, hb4⟩ := hb
      by_cases hlt : i < j
      · obtain ⟨h, hh⟩ : ∃ h, h = (i + j) / 2 := ⟨_, rfl⟩
        have hh1 : i ≤ h := by omega
        have hh2 : h < j := by omega
        obtain ⟨g, hg⟩ : ∃ g, g = d + m - h - 1 := ⟨_, rfl⟩
        have hge : g < e := by omega
        obtain ⟨x, hx⟩ := some_of_lt (l := cur) (j := h) (by rw [← HLL.out]; omega)
        obtain ⟨z, hz⟩ := some_of_lt (l := cur) (j := g) (by rw [← HLL.out]; omega)
        have HX := hid hx
        have HZ := hid hz
        have p1 : ((i : Int) + (j : Int)) / 2 = (h : Int) := by omega
        have p2 : (d : Int) + (m : Int) - 1 - (h : Int) = (g : Int) := by omega
        have p3 : (g : Int) < (l : Int) := by omega
        have p4 : (h : Int) < (l : Int) := by omega
        have L0 := fun Y : Later wr => (hs.later Y.h).get3 hz
        have L1 := fun Y : Later wr => (hs.later Y.h).get3 hx
        have LC := fun Y : Later wr => HC.out Y.w' (hs.later Y.h).grown z x
        have a0 := fun Y => (L0 Y).1.1
        have a1 := fun Y => (L0 Y).1.2.1
        have a2 := fun Y => (L0 Y).1.2.2
        have b0 := fun Y => (L1 Y).1.1
        have b1 := fun Y => (L1 Y).1.2.1
        have b2 := fun Y => (L1 Y).1.2.2
        obtain ⟨r1, r2⟩ := HL.out.range z x
        have HLE := hid (HL.out.eq z x)
        have HH := hid hh
        have HGG := hid hg
        generalize cf z x = c at *
        have HLC := hid LC
        clear L0 L1 LC hs hz hx hh hg
        by_cases hcc : c < 0
        · go_wp2
          refine wp_region_later (by kernel_rfl) (by kernel_rfl) ?_
          repeat (go_big_quiet_step (first | (go_at_call 120; exact Later.done (HLC.out _))))
          refine wpQuiet_nil ?_
          intro W2 hW2
          clear a0 a1 a2 b0 b1 b2
          have HD2 := hid (HS.out.later hW2)
          clear hW2
          go_wp2
          go_roundw
          case rel =>
            refine ⟨i, h, lo, hi, rfl, rfl, HG, hli, hh1, by omega, HI, .inr ⟨x, z, HX.out, by rw [← HGG.out]; exact HZ.out, ?_⟩, HD2.out⟩
            rw [HLE.out]; exact decide_eq_false (by omega)
          case measure => simp only [intOf]; omega
        · have q4 : decide (c < 0) = false := decide_eq_false hcc
          have q5 : c + 1 > 0 := by omega
          have HCC := hid hcc
          clear hcc
          go_wp2
          refine wp_region_later (by kernel_rfl) (by kernel_rfl) ?_
          repeat (go_big_quiet_step (first | (go_at_call 120; exact Later.done (HLC.out _))))
          refine wpQuiet_nil ?_
          intro W2 hW2
          clear a0 a1 a2 b0 b1 b2
          have HD2 := hid (HS.out.later hW2)
          clear hW2
          go_wp2
          go_roundw
          case rel =>
            refine ⟨h + 1, j, lo, hi, by go_num, rfl, HG, by omega, by omega, hjh, .inr ⟨x, z, by rw [Nat.add_sub_cancel]; exact HX.out, by rw [show d + m - (h + 1) = g by have := HGG.out; omega]; exact HZ.out, ?_⟩, HJ, HD2.out⟩
            rw [HLE.out]; exact decide_eq_true (by have := HCC.out; omega)
          case measure => simp only [intOf]; omega
      · obtain rfl : i = j := by omega
        obtain ⟨f, hf⟩ : ∃ f, f + i = d + m := ⟨d + m - i, by omega⟩
        obtain ⟨A1, A2, B1, B2, hA12, hB12, hsA, hfB, hmg⟩ := sym_split (f := f) HL.out.total hA hB HCUR.out HA.out HM.out HE.out HD.out HG.out hli hjh hf (by
          have := HI.out
          rwa [show d + m - i = f by omega] at this) (by
          have := HJ.out
          rwa [show d + m - i - 1 = f - 1 by omega] at this)
        have p1 : (d : Int) + (m : Int) - (i : Int) = (f : Int) := by omega
        have lA := HM.out
        have lB := HE.out
        rw [hA12] at lA
        rw [hB12] at lB
        simp only [List.length_append] at lA lB
        have lP := HA.out
        have HMG := hid hmg
        have HK0 : Hid (SortAt (encT tc) 3 w b o (P ++ A1 ++ A2 ++ B1 ++ B2 ++ T) wr) := hid (by
          have := HS.out
          rw [HCUR.out, hA12, hB12] at this
          simpa using this)
        have HLN : Hid (l = P.length + A1.length + A2.length + B1.length + B2.length + T.length) := hid (by rw [HLL.out, HCUR.out, hA12, hB12]; simp; omega)
        have HSZ : Hid (A.length = A1.length + A2.length ∧ B.length = B1.length + B2.length) := hid (by rw [hA12, hB12]; simp)
        have HSA : Hid (SortedL le A1 ∧ SortedL le A2 ∧ SortedL le B1 ∧ SortedL le B2) := hid (by
          rw [hA12] at hA
          rw [hB12] at hB
          have h1 := List.pairwise_append.1 hA
          have h2 := List.pairwise_append.1 hB
          exact ⟨h1.1, h1.2.1, h2.1, h2.2.1⟩)
        have LP := hid lP
        have LA := hid (And.intro lA lB)
        have LS := hid (And.intro hsA (And.intro hfB hf))
        have hmle : m ≤ l := by omega
        have hfle : f ≤ l := by omega
        clear hs hA12 hB12 hmg hli hij hjh hb1 hb2 hb3 hb4 hlt lA lB lP hsA hfB hf
        rcases (show (0 < A1.length ∧ 0 < A2.length ∧ 0 < B1.length ∧ 0 < B2.length) ∨ (0 < A1.length ∧ 0 < A2.length ∧ 0 < B1.length ∧ B2.length = 0) ∨ (0 < A1.length ∧ A2.length = 0 ∧ 0 < B1.length ∧ 0 < B2.length) ∨ (0 < A1.length ∧ 0 < A2.length ∧ B1.length = 0 ∧ 0 < B2.length) ∨ (0 < A1.length ∧ 0 < A2.length ∧ B1.length = 0 ∧ B2.length = 0) ∨ (0 < A1.length ∧ A2.length = 0 ∧ B1.length = 0 ∧ 0 < B2.length) ∨ (A1.length = 0 ∧ 0 < A2.length ∧ 0 < B1.length ∧ 0 < B2.length) ∨ (A1.length = 0 ∧ 0 < A2.length ∧ 0 < B1.length ∧ B2.length = 0) ∨ (A1.length = 0 ∧ A2.length = 0 ∧ 0 < B1.length ∧ 0 < B2.length) by have := LA.out; have := LS.out; omega) with ⟨n1, n2, n3, n4⟩ | ⟨n1, n2, n3, n4⟩ | ⟨n1, n2, n3, n4⟩ | ⟨n1, n2, n3, n4⟩ | ⟨n1, n2, n3, n4⟩ | ⟨n1, n2, n3, n4⟩ | ⟨n1, n2, n3, n4⟩ | ⟨n1, n2, n3, n4⟩ | ⟨n1, n2, n3, n4⟩
        · have f1 : (i : Int) < (m : Int) := by have := LA.out; have := LS.out; omega
          have f2 : (m : Int) < (f : Int) := by have := LA.out; have := LS.out; omega
          have f3 : (a : Int) < (i : Int) := by have := LA.out; have := LS.out; omega
          have f4 : (i : Int) < (d : Int) := by have := LA.out; have := LS.out; omega
          have f5 : (d : Int) < (f : Int) := by have := LA.out; have := LS.out; omega
          have f6 : (f : Int) < (e : Int) := by have := LA.out; have := LS.out; omega
          have HN1 := hid (And.intro n2 n3)
          have HNN := hid (And.intro n1 (And.intro n2 (And.intro n3 n4)))
          clear n1 n2 n3 n4
          have C1 := hid (rotate_t (tc := tc) (cap := cap) (l := l) (za := (i : Int)) (zm := (m : Int)) (zb := (f : Int)) (cv := .func (.func 120) #[] #[]) (P ++ A1) A2 B1 (B2 ++ T) wr (by simp) (by rw [HLN.out]; simp; omega) (by have := LS.out; have := LP.out; simp; omega) (by have := LS.out; have := LP.out; have := LA.out; simp; omega) (by have := LS.out; have := LP.out; have := LA.out; simp; omega) HK0.out (by intro hn; have := HNN.out; rw [hn] at this; simp at this) (by intro hn; have := HNN.out; rw [hn] at this; simp at this) hcap hcap2)
          go_wp2_with fail
          with_reducible refine C1.out.mono ?_
          rintro r w1 ⟨rfl, hk1⟩
          have HK1 : Hid (SortAt (encT tc) 3 w b o (P ++ A1 ++ B1 ++ A2 ++ B2 ++ T) w1) := hid (by simpa using hk1)
          clear hk1
          have C2 := hid (HIH.out P A1 B1 (A2 ++ B2 ++ T) _ w1 l a i d (by have := HNN.out; have := HSZ.out; omega) HNN.out.1 HNN.out.2.2.1 HSA.out.1 HSA.out.2.2.1 (by simp) (by rw [HLN.out]; simp; omega) LP.out LS.out.1 (by have := LS.out; have := LA.out; omega) HK1.out hcap hcap2)
          go_wp2_with fail
          with_reducible refine C2.out.mono ?_
          rintro r w2 ⟨rfl, hk2⟩
          have HK2 : Hid (SortAt (encT tc) 3 w b o (P ++ mergeL le A1 B1 ++ A2 ++ B2 ++ T) w2) := hid (by simpa using hk2)
          clear hk2
          have C3 := hid (HIH.out (P ++ mergeL le A1 B1) A2 B2 T _ w2 l d f e (by have := HNN.out; have := HSZ.out; omega) HNN.out.2.1 HNN.out.2.2.2 HSA.out.2.1 HSA.out.2.2.2 (by simp) (by rw [HLN.out]; simp; omega) (by have := LS.out; have := LA.out; have := LP.out; simp; omega) (by have := LS.out; have := LA.out; omega) (by have := LS.out; have := LA.out; omega) HK2.out hcap hcap2)
          go_wp2_with fail
          with_reducible refine C3.out.mono ?_
          rintro r w3 ⟨rfl, hk3⟩
          have HK3 : Hid (SortAt (encT tc) 3 w b o (P ++ mergeL le A B ++ T) w3) := hid (by rw [HMG.out]; simpa using hk3)
          clear hk3
          go_wp2
          all_goals
            go_end0
            exact ⟨rfl, by first | (with_reducible exact HK3.out) | (rw [← List.append_assoc]; with_reducible exact HK3.out)⟩
        · have f1 : (i : Int) < (m : Int) := by have := LA.out; have := LS.out; omega
          have f2 : (m : Int) < (f : Int) := by have := LA.out; have := LS.out; omega
          have f3 : (a : Int) < (i : Int) := by have := LA.out; have := LS.out; omega
          have f4 : (i : Int) < (d : Int) := by have := LA.out; have := LS.out; omega
          have f5 : (d : Int) < (f : Int) := by have := LA.out; have := LS.out; omega
          have f6 : (e : Int) ≤ (f : Int) := by have := LA.out; have := LS.out; omega
          have hzB2 : B2 = [] := List.length_eq_zero_iff.1 (by omega)
          have HZ := hid (And.intro (rfl : 0 = 0) hzB2)
          clear hzB2
          have HN1 := hid (And.intro n2 n3)
          have HNN := hid (And.intro n1 (And.intro n2 (And.intro n3 n4)))
          clear n1 n2 n3 n4
          have C1 := hid (rotate_t (tc := tc) (cap := cap) (l := l) (za := (i : Int)) (zm := (m : Int)) (zb := (f : Int)) (cv := .func (.func 120) #[] #[]) (P ++ A1) A2 B1 (B2 ++ T) wr (by simp) (by rw [HLN.out]; simp; omega) (by have := LS.out; have := LP.out; simp; omega) (by have := LS.out; have := LP.out; have := LA.out; simp; omega) (by have := LS.out; have := LP.out; have := LA.out; simp; omega) HK0.out (by intro hn; have := HNN.out; rw [hn] at this; simp at this) (by intro hn; have := HNN.out; rw [hn] at this; simp at this) hcap hcap2)
          go_wp2_with fail
          with_reducible refine C1.out.mono ?_
          rintro r w1 ⟨rfl, hk1⟩
          have HK1 : Hid (SortAt (encT tc) 3 w b o (P ++ A1 ++ B1 ++ A2 ++ B2 ++ T) w1) := hid (by simpa using hk1)
          clear hk1
          have C2 := hid (HIH.out P A1 B1 (A2 ++ B2 ++ T) _ w1 l a i d (by have := HNN.out; have := HSZ.out; omega) HNN.out.1 HNN.out.2.2.1 HSA.out.1 HSA.out.2.2.1 (by simp) (by rw [HLN.out]; simp; omega) LP.out LS.out.1 (by have := LS.out; have := LA.out; omega) HK1.out hcap hcap2)
          go_wp2_with fail
          with_reducible refine C2.out.mono ?_
          rintro r w2 ⟨rfl, hk2⟩
          have HK2 : Hid (SortAt (encT tc) 3 w b o (P ++ mergeL le A1 B1 ++ A2 ++ B2 ++ T) w2) := hid (by simpa using hk2)
          clear hk2
          have HK3 : Hid (SortAt (encT tc) 3 w b o (P ++ mergeL le A B ++ T) w2) := hid (by
            have := HK2.out
            rw [HMG.out]
            obtain ⟨-, hzB2⟩ := HZ.out
            subst hzB2
            simpa [mergeL_nil, mergeL_right] using this)
          go_wp2
          all_goals
            go_end0
            exact ⟨rfl, by first | (with_reducible exact HK3.out) | (rw [← List.append_assoc]; with_reducible exact HK3.out)⟩
        · have f1 : (m : Int) ≤ (i : Int) := by have := LA.out; have := LS.out; omega
          have f2 : (m : Int) < (f : Int) := by have := LA.out; have := LS.out; omega
          have f3 : (a : Int) < (i : Int) := by have := LA.out; have := LS.out; omega
          have f4 : (i : Int) < (d : Int) := by have := LA.out; have := LS.out; omega
          have f5 : (f : Int) ≤ (d : Int) := by have := LA.out; have := LS.out; omega
          have f6 : (f : Int) < (e : Int) := by have := LA.out; have := LS.out; omega
          have hzA2 : A2 = [] := List.length_eq_zero_iff.1 (by omega)
          have HZ := hid (And.intro (rfl : 0 = 0) hzA2)
          clear hzA2
          have HNN := hid (And.intro n1 (And.intro n2 (And.intro n3 n4)))
          clear n1 n2 n3 n4
          have HK1 : Hid (SortAt (encT tc) 3 w b o (P ++ A1 ++ B1 ++ A2 ++ B2 ++ T) wr) := hid (by
            have := HK0.out
            obtain ⟨-, hzA2⟩ := HZ.out
            subst hzA2
            simpa using this)
          have C2 := hid (HIH.out P A1 B1 (A2 ++ B2 ++ T) _ wr l a i d (by have := HNN.out; have := HSZ.out; omega) HNN.out.1 HNN.out.2.2.1 HSA.out.1 HSA.out.2.2.1 (by simp) (by rw [HLN.out]; simp; omega) LP.out LS.out.1 (by have := LS.out; have := LA.out; omega) HK1.out hcap hcap2)
          go_wp2_with fail
          with_reducible refine C2.out.mono ?_
          rintro r w2 ⟨rfl, hk2⟩
          have HK2 : Hid (SortAt (encT tc) 3 w b o (P ++ mergeL le A1 B1 ++ A2 ++ B2 ++ T) w2) := hid (by simpa using hk2)
          clear hk2
          have HK3 : Hid (SortAt (encT tc) 3 w b o (P ++ mergeL le A B ++ T) w2) := hid (by
            have := HK2.out
            rw [HMG.out]
            obtain ⟨-, hzA2⟩ := HZ.out
            subst hzA2
            simpa [mergeL_nil, mergeL_right] using this)
          go_wp2
          all_goals
            go_end0
            exact ⟨rfl, by first | (with_reducible exact HK3.out) | (rw [← List.append_assoc]; with_reducible exact HK3.out)⟩
        · have f1 : (i : Int) < (m : Int) := by have := LA.out; have := LS.out; omega
          have f2 : (f : Int) ≤ (m : Int) := by have := LA.out; have := LS.out; omega
          have f3 : (a : Int) < (i : Int) := by have := LA.out; have := LS.out; omega
          have f4 : (d : Int) ≤ (i : Int) := by have := LA.out; have := LS.out; omega
          have f5 : (d : Int) < (f : Int) := by have := LA.out; have := LS.out; omega
          have f6 : (f : Int) < (e : Int) := by have := LA.out; have := LS.out; omega
          have hzB1 : B1 = [] := List.length_eq_zero_iff.1 (by omega)
          have HZ := hid (And.intro (rfl : 0 = 0) hzB1)
          clear hzB1
          have HNN := hid (And.intro n1 (And.intro n2 (And.intro n3 n4)))
          clear n1 n2 n3 n4
          have HK1 : Hid (SortAt (encT tc) 3 w b o (P ++ A1 ++ B1 ++ A2 ++ B2 ++ T) wr) := hid (by
            have := HK0.out
            obtain ⟨-, hzB1⟩ := HZ.out
            subst hzB1
            simpa using this)
          have HK2 : Hid (SortAt (encT tc) 3 w b o (P ++ mergeL le A1 B1 ++ A2 ++ B2 ++ T) wr) := hid (by
            have := HK1.out
            obtain ⟨-, hzB1⟩ := HZ.out
            subst hzB1
            simpa [mergeL_nil, mergeL_right] using this)
          have C3 := hid (HIH.out (P ++ mergeL le A1 B1) A2 B2 T _ wr l d f e (by have := HNN.out; have := HSZ.out; omega) HNN.out.2.1 HNN.out.2.2.2 HSA.out.2.1 HSA.out.2.2.2 (by simp) (by rw [HLN.out]; simp; omega) (by have := LS.out; have := LA.out; have := LP.out; simp; omega) (by have := LS.out; have := LA.out; omega) (by have := LS.out; have := LA.out; omega) HK2.out hcap hcap2)
          go_wp2_with fail
          with_reducible refine C3.out.mono ?_
          rintro r w3 ⟨rfl, hk3⟩
          have HK3 : Hid (SortAt (encT tc) 3 w b o (P ++ mergeL le A B ++ T) w3) := hid (by rw [HMG.out]; simpa using hk3)
          clear hk3
          go_wp2
          all_goals
            go_end0
            exact ⟨rfl, by first | (with_reducible exact HK3.out) | (rw [← List.append_assoc]; with_reducible exact HK3.out)⟩
        · have f1 : (i : Int) < (m : Int) := by have := LA.out; have := LS.out; omega
          have f2 : (f : Int) ≤ (m : Int) := by have := LA.out; have := LS.out; omega
          have f3 : (a : Int) < (i : Int) := by have := LA.out; have := LS.out; omega
          have f4 : (d : Int) ≤ (i : Int) := by have := LA.out; have := LS.out; omega
          have f5 : (d : Int) < (f : Int) := by have := LA.out; have := LS.out; omega
          have f6 : (e : Int) ≤ (f : Int) := by have := LA.out; have := LS.out; omega
          have hzB1 : B1 = [] := List.length_eq_zero_iff.1 (by omega)
          have hzB2 : B2 = [] := List.length_eq_zero_iff.1 (by omega)
          have HZ := hid (And.intro (rfl : 0 = 0) (And.intro hzB1 hzB2))
          clear hzB1
          clear hzB2
          have HNN := hid (And.intro n1 (And.intro n2 (And.intro n3 n4)))
          clear n1 n2 n3 n4
          have HK1 : Hid (SortAt (encT tc) 3 w b o (P ++ A1 ++ B1 ++ A2 ++ B2 ++ T) wr) := hid (by
            have := HK0.out
            obtain ⟨-, hzB1, hzB2⟩ := HZ.out
            subst hzB1 hzB2
            simpa using this)
          have HK2 : Hid (SortAt (encT tc) 3 w b o (P ++ mergeL le A1 B1 ++ A2 ++ B2 ++ T) wr) := hid (by
            have := HK1.out
            obtain ⟨-, hzB1, hzB2⟩ := HZ.out
            subst hzB1 hzB2
            simpa [mergeL_nil, mergeL_right] using this)
          have HK3 : Hid (SortAt (encT tc) 3 w b o (P ++ mergeL le A B ++ T) wr) := hid (by
            have := HK2.out
            rw [HMG.out]
            obtain ⟨-, hzB1, hzB2⟩ := HZ.out
            subst hzB1 hzB2
            simpa [mergeL_nil, mergeL_right] using this)
          go_wp2
          all_goals
            go_end0
            exact ⟨rfl, by first | (with_reducible exact HK3.out) | (rw [← List.append_assoc]; with_reducible exact HK3.out)⟩
        · have f1 : (m : Int) ≤ (i : Int) := by have := LA.out; have := LS.out; omega
          have f2 : (f : Int) ≤ (m : Int) := by have := LA.out; have := LS.out; omega
          have f3 : (a : Int) < (i : Int) := by have := LA.out; have := LS.out; omega
          have f4 : (d : Int) ≤ (i : Int) := by have := LA.out; have := LS.out; omega
          have f5 : (f : Int) ≤ (d : Int) := by have := LA.out; have := LS.out; omega
          have f6 : (f : Int) < (e : Int) := by have := LA.out; have := LS.out; omega
          have hzA2 : A2 = [] := List.length_eq_zero_iff.1 (by omega)
          have hzB1 : B1 = [] := List.length_eq_zero_iff.1 (by omega)
          have HZ := hid (And.intro (rfl : 0 = 0) (And.intro hzA2 hzB1))
          clear hzA2
          clear hzB1
          have HNN := hid (And.intro n1 (And.intro n2 (And.intro n3 n4)))
          clear n1 n2 n3 n4
          have HK1 : Hid (SortAt (encT tc) 3 w b o (P ++ A1 ++ B1 ++ A2 ++ B2 ++ T) wr) := hid (by
            have := HK0.out
            obtain ⟨-, hzA2, hzB1⟩ := HZ.out
            subst hzA2 hzB1
            simpa using this)
          have HK2 : Hid (SortAt (encT tc) 3 w b o (P ++ mergeL le A1 B1 ++ A2 ++ B2 ++ T) wr) := hid (by
            have := HK1.out
            obtain ⟨-, hzA2, hzB1⟩ := HZ.out
            subst hzA2 hzB1
            simpa [mergeL_nil, mergeL_right] using this)
          have HK3 : Hid (SortAt (encT tc) 3 w b o (P ++ mergeL le A B ++ T) wr) := hid (by
            have := HK2.out
            rw [HMG.out]
            obtain ⟨-, hzA2, hzB1⟩ := HZ.out
            subst hzA2 hzB1
            simpa [mergeL_nil, mergeL_right] using this)
          go_wp2
          all_goals
            go_end0
            exact ⟨rfl, by first | (with_reducible exact HK3.out) | (rw [← List.append_assoc]; with_reducible exact HK3.out)⟩
        · have f1 : (i : Int) < (m : Int) := by have := LA.out; have := LS.out; omega
          have f2 : (m : Int) < (f : Int) := by have := LA.out; have := LS.out; omega
          have f3 : (i : Int) ≤ (a : Int) := by have := LA.out; have := LS.out; omega
          have f4 : (i : Int) < (d : Int) := by have := LA.out; have := LS.out; omega
          have f5 : (d : Int) < (f : Int) := by have := LA.out; have := LS.out; omega
          have f6 : (f : Int) < (e : Int) := by have := LA.out; have := LS.out; omega
          have hzA1 : A1 = [] := List.length_eq_zero_iff.1 (by omega)
          have HZ := hid (And.intro (rfl : 0 = 0) hzA1)
          clear hzA1
          have HN1 := hid (And.intro n2 n3)
          have HNN := hid (And.intro n1 (And.intro n2 (And.intro n3 n4)))
          clear n1 n2 n3 n4
          have C1 := hid (rotate_t (tc := tc) (cap := cap) (l := l) (za := (i : Int)) (zm := (m : Int)) (zb := (f : Int)) (cv := .func (.func 120) #[] #[]) (P ++ A1) A2 B1 (B2 ++ T) wr (by simp) (by rw [HLN.out]; simp; omega) (by have := LS.out; have := LP.out; simp; omega) (by have := LS.out; have := LP.out; have := LA.out; simp; omega) (by have := LS.out; have := LP.out; have := LA.out; simp; omega) HK0.out (by intro hn; have := HNN.out; rw [hn] at this; simp at this) (by intro hn; have := HNN.out; rw [hn] at this; simp at this) hcap hcap2)
          go_wp2_with fail
          with_reducible refine C1.out.mono ?_
          rintro r w1 ⟨rfl, hk1⟩
          have HK1 : Hid (SortAt (encT tc) 3 w b o (P ++ A1 ++ B1 ++ A2 ++ B2 ++ T) w1) := hid (by simpa using hk1)
          clear hk1
          have HK2 : Hid (SortAt (encT tc) 3 w b o (P ++ mergeL le A1 B1 ++ A2 ++ B2 ++ T) w1) := hid (by
            have := HK1.out
            obtain ⟨-, hzA1⟩ := HZ.out
            subst hzA1
            simpa [mergeL_nil, mergeL_right] using this)
          have C3 := hid (HIH.out (P ++ mergeL le A1 B1) A2 B2 T _ w1 l d f e (by have := HNN.out; have := HSZ.out; omega) HNN.out.2.1 HNN.out.2.2.2 HSA.out.2.1 HSA.out.2.2.2 (by simp) (by rw [HLN.out]; simp; omega) (by have := LS.out; have := LA.out; have := LP.out; simp; omega) (by have := LS.out; have := LA.out; omega) (by have := LS.out; have := LA.out; omega) HK2.out hcap hcap2)
          go_wp2_with fail
          with_reducible refine C3.out.mono ?_
          rintro r w3 ⟨rfl, hk3⟩
          have HK3 : Hid (SortAt (encT tc) 3 w b o (P ++ mergeL le A B ++ T) w3) := hid (by rw [HMG.out]; simpa using hk3)
          clear hk3
          go_wp2
          all_goals
            go_end0
            exact ⟨rfl, by first | (with_reducible exact HK3.out) | (rw [← List.append_assoc]; with_reducible exact HK3.out)⟩
        · have f1 : (i : Int) < (m : Int) := by have := LA.out; have := LS.out; omega
          have f2 : (m : Int) < (f : Int) := by have := LA.out; have := LS.out; omega
          have f3 : (i : Int) ≤ (a : Int) := by have := LA.out; have := LS.out; omega
          have f4 : (i : Int) < (d : Int) := by have := LA.out; have := LS.out; omega
          have f5 : (d : Int) < (f : Int) := by have := LA.out; have := LS.out; omega
          have f6 : (e : Int) ≤ (f : Int) := by have := LA.out; have := LS.out; omega
          have hzA1 : A1 = [] := List.length_eq_zero_iff.1 (by omega)
          have hzB2 : B2 = [] := List.length_eq_zero_iff.1 (by omega)
          have HZ := hid (And.intro (rfl : 0 = 0) (And.intro hzA1 hzB2))
          clear hzA1
          clear hzB2
          have HN1 := hid (And.intro n2 n3)
          have HNN := hid (And.intro n1 (And.intro n2 (And.intro n3 n4)))
          clear n1 n2 n3 n4
          have C1 := hid (rotate_t (tc := tc) (cap := cap) (l := l) (za := (i : Int)) (zm := (m : Int)) (zb := (f : Int)) (cv := .func (.func 120) #[] #[]) (P ++ A1) A2 B1 (B2 ++ T) wr (by simp) (by rw [HLN.out]; simp; omega) (by have := LS.out; have := LP.out; simp; omega) (by have := LS.out; have := LP.out; have := LA.out; simp; omega) (by have := LS.out; have := LP.out; have := LA.out; simp; omega) HK0.out (by intro hn; have := HNN.out; rw [hn] at this; simp at this) (by intro hn; have := HNN.out; rw [hn] at this; simp at this) hcap hcap2)
          go_wp2_with fail
          with_reducible refine C1.out.mono ?_
          rintro r w1 ⟨rfl, hk1⟩
          have HK1 : Hid (SortAt (encT tc) 3 w b o (P ++ A1 ++ B1 ++ A2 ++ B2 ++ T) w1) := hid (by simpa using hk1)
          clear hk1
          have HK2 : Hid (SortAt (encT tc) 3 w b o (P ++ mergeL le A1 B1 ++ A2 ++ B2 ++ T) w1) := hid (by
            have := HK1.out
            obtain ⟨-, hzA1, hzB2⟩ := HZ.out
            subst hzA1 hzB2
            simpa [mergeL_nil, mergeL_right] using this)
          have HK3 : Hid (SortAt (encT tc) 3 w b o (P ++ mergeL le A B ++ T) w1) := hid (by
            have := HK2.out
            rw [HMG.out]
            obtain ⟨-, hzA1, hzB2⟩ := HZ.out
            subst hzA1 hzB2
            simpa [mergeL_nil, mergeL_right] using this)
          go_wp2
          all_goals
            go_end0
            exact ⟨rfl, by first | (with_reducible exact HK3.out) | (rw [← List.append_assoc]; with_reducible exact HK3.out)⟩
        · have f1 : (m : Int) ≤ (i : Int) := by have := LA.out; have := LS.out; omega
          have f2 : (m : Int) < (f : Int) := by have := LA.out; have := LS.out; omega
          have f3 : (i : Int) ≤ (a : Int) := by have := LA.out; have := LS.out; omega
          have f4 : (i : Int) < (d : Int) := by have := LA.out; have := LS.out; omega
          have f5 : (f : Int) ≤ (d : Int) := by have := LA.out; have := LS.out; omega
          have f6 : (f : Int) < (e : Int) := by have := LA.out; have := LS.out; omega
          have hzA1 : A1 = [] := List.length_eq_zero_iff.1 (by omega)
          have hzA2 : A2 = [] := List.length_eq_zero_iff.1 (by omega)
          have HZ := hid (And.intro (rfl : 0 = 0) (And.intro hzA1 hzA2))
          clear hzA1
          clear hzA2
          have HNN := hid (And.intro n1 (And.intro n2 (And.intro n3 n4)))
          clear n1 n2 n3 n4
          have HK1 : Hid (SortAt (encT tc) 3 w b o (P ++ A1 ++ B1 ++ A2 ++ B2 ++ T) wr) := hid (by
            have := HK0.out
            obtain ⟨-, hzA1, hzA2⟩ := HZ.out
            subst hzA1 hzA2
            simpa using this)
          have HK2 : Hid (SortAt (encT tc) 3 w b o (P ++ mergeL le A1 B1 ++ A2 ++ B2 ++ T) wr) := hid (by
            have := HK1.out
            obtain ⟨-, hzA1, hzA2⟩ := HZ.out
            subst hzA1 hzA2
            simpa [mergeL_nil, mergeL_right] using this)
          have HK3 : Hid (SortAt (encT tc) 3 w b o (P ++ mergeL le A B ++ T) wr) := hid (by
            have := HK2.out
            rw [HMG.out]
            obtain ⟨-, hzA1, hzA2⟩ := HZ.out
            subst hzA1 hzA2
            simpa [mergeL_nil, mergeL_right] using this)
          go_wp2
          all_goals
            go_end0
            exact ⟨rfl, by first | (with_reducible exact HK3.out) | (rw [← List.append_assoc]; with_reducible exact HK3.out)⟩
  · have q3 : ¬ (m : Int) > (d : Int) := by omega
    have HG : Hid (symGood a m e d a m) := .inr ⟨hdm, rfl, rfl⟩
    have hlh : a ≤ m := by omega
    go_enter Tryz.func153, Tryz.ntmps153
    go_wp2
    go_loopw [20, 21] (fun vi vj wr => ∃ i j lo hi : Nat, vi = .int .i64 i ∧ vj = .int .i64 j ∧ Hid (symGood a m e d lo hi) ∧ lo ≤ i ∧ i ≤ j ∧ j ≤ hi ∧ Hid (i = lo ∨ ∃ x z, cur[i - 1]? = some x ∧ cur[d + m - i]? = some z ∧ le x z = true) ∧ Hid (j = hi ∨ ∃ x z, cur[j]? = some x ∧ cur[d + m - j - 1]? = some z ∧ le x z = false) ∧ SortAt (encT tc) 3 w b o cur wr) (fun vi vj _ => (intOf vj).toNat - (intOf vi).toNat)
    case atStart => exact ⟨a, m, a, m, rfl, rfl, HG, Nat.le_refl _, hlh, Nat.le_refl _, .inl rfl, .inl rfl, H.out⟩
    case round =>
      clear HG q3 hlh hdm
      obtain ⟨i, j, lo, hi, rfl, rfl, HG, hli, hij, hjh, HI, HJ, hs⟩ := hrel
      have HS := hid hs
      have hb : a ≤ lo ∧ hi ≤ m ∧ hi ≤ d ∧ d + m ≤ lo + e := by have := HG.out; unfold symGood at this; omega
      obtain ⟨hb1, hb2, hb3, hb4⟩ := hb
      by_cases hlt : i < j
      · obtain ⟨h, hh⟩ : ∃ h, h = (i + j) / 2 := ⟨_, rfl⟩
        have hh1 : i ≤ h := by omega
        have hh2 : h < j := by omega
        obtain ⟨g, hg⟩ : ∃ g, g = d + m - h - 1 := ⟨_, rfl⟩
        have hge : g < e := by omega
        obtain ⟨x, hx⟩ := some_of_lt (l := cur) (j := h) (by rw [← HLL.out]; omega)
        obtain ⟨z, hz⟩ := some_of_lt (l := cur) (j := g) (by rw [← HLL.out]; omega)
        have HX := hid hx
        have HZ := hid hz
        have p1 : ((i : Int) + (j : Int)) / 2 = (h : Int) := by omega
        have p2 : (d : Int) + (m : Int) - 1 - (h : Int) = (g : Int) := by omega
        have p3 : (g : Int) < (l : Int) := by omega
        have p4 : (h : Int) < (l : Int) := by omega
        have L0 := fun Y : Later wr => (hs.later Y.h).get3 hz
        have L1 := fun Y : Later wr => (hs.later Y.h).get3 hx
        have LC := fun Y : Later wr => HC.out Y.w' (hs.later Y.h).grown z x
        have a0 := fun Y => (L0 Y).1.1
        have a1 := fun Y => (L0 Y).1.2.1
        have a2 := fun Y => (L0 Y).1.2.2
        have b0 := fun Y => (L1 Y).1.1
        have b1 := fun Y => (L1 Y).1.2.1
        have b2 := fun Y => (L1 Y).1.2.2
        obtain ⟨r1, r2⟩ := HL.out.range z x
        have HLE := hid (HL.out.eq z x)
        have HH := hid hh
        have HGG := hid hg
        generalize cf z x = c at *
        have HLC := hid LC
        clear L0 L1 LC hs hz hx hh hg
        by_cases hcc : c < 0
        · go_wp2
          refine wp_region_later (by kernel_rfl) (by kernel_rfl) ?_
          repeat (go_big_quiet_step (first | (go_at_call 120; exact Later.done (HLC.out _))))
          refine wpQuiet_nil ?_
          intro W2 hW2
          clear a0 a1 a2 b0 b1 b2
          have HD2 := hid (HS.out.later hW2)
          clear hW2
          go_wp2
          go_roundw
          case rel =>
            refine ⟨i, h, lo, hi, rfl, rfl, HG, hli, hh1, by omega, HI, .inr ⟨x, z, HX.out, by rw [← HGG.out]; exact HZ.out, ?_⟩, HD2.out⟩
            rw [HLE.out]; exact decide_eq_false (by omega)
          case measure => simp only [intOf]; omega
        · have q4 : decide (c < 0) = false := decide_eq_false hcc
          have q5 : c + 1 > 0 := by omega
          have HCC := hid hcc
          clear hcc
          go_wp2
          refine wp_region_later (by kernel_rfl) (by kernel_rfl) ?_
          repeat (go_big_quiet_step (first | (go_at_call 120; exact Later.done (HLC.out _))))
          refine wpQuiet_nil ?_
          intro W2 hW2
          clear a0 a1 a2 b0 b1 b2
          have HD2 := hid (HS.out.later hW2)
          clear hW2
          go_wp2
          go_roundw
          case rel =>
            refine ⟨h + 1, j, lo, hi, by go_num, rfl, HG, by omega, by omega, hjh, .inr ⟨x, z, by rw [Nat.add_sub_cancel]; exact HX.out, by rw [show d + m - (h + 1) = g by have := HGG.out; omega]; exact HZ.out, ?_⟩, HJ, HD2.out⟩
            rw [HLE.out]; exact decide_eq_true (by have := HCC.out; omega)
          case measure => simp only [intOf]; omega
      · obtain rfl : i = j := by omega
        obtain ⟨f, hf⟩ : ∃ f, f + i = d + m := ⟨d + m - i, by omega⟩
        obtain ⟨A1, A2, B1, B2, hA12, hB12, hsA, hfB, hmg⟩ := sym_split (f := f) HL.out.total hA hB HCUR.out HA.out HM.out HE.out HD.out HG.out hli hjh hf (by
          have := HI.out
          rwa [show d + m - i = f by omega] at this) (by
          have := HJ.out
          rwa [show d + m - i - 1 = f - 1 by omega] at this)
        have p1 : (d : Int) + (m : Int) - (i : Int) = (f : Int) := by omega
        have lA := HM.out
        have lB := HE.out
        rw [hA12] at lA
        rw [hB12] at lB
        simp only [List.length_append] at lA lB
        have lP := HA.out
        have HMG := hid hmg
        have HK0 : Hid (SortAt (encT tc) 3 w b o (P ++ A1 ++ A2 ++ B1 ++ B2 ++ T) wr) := hid (by
          have := HS.out
          rw [HCUR.out, hA12, hB12] at this
          simpa using this)
        have HLN : Hid (l = P.length + A1.length + A2.length + B1.length + B2.length + T.length) := hid (by rw [HLL.out, HCUR.out, hA12, hB12]; simp; omega)
        have HSZ : Hid (A.length = A1.length + A2.length ∧ B.length = B1.length + B2.length) := hid (by rw [hA12, hB12]; simp)
        have HSA : Hid (SortedL le A1 ∧ SortedL le A2 ∧ SortedL le B1 ∧ SortedL le B2) := hid (by
          rw [hA12] at hA
          rw [hB12] at hB
          have h1 := List.pairwise_append.1 hA
          have h2 := List.pairwise_append.1 hB
          exact ⟨h1.1, h1.2.1, h2.1, h2.2.1⟩)
        have LP := hid lP
        have LA := hid (And.intro lA lB)
        have LS := hid (And.intro hsA (And.intro hfB hf))
        have hmle : m ≤ l := by omega
        have hfle : f ≤ l := by omega
        clear hs hA12 hB12 hmg hli hij hjh hb1 hb2 hb3 hb4 hlt lA lB lP hsA hfB hf
        rcases (show (0 < A1.length ∧ 0 < A2.length ∧ 0 < B1.length ∧ 0 < B2.length) ∨ (0 < A1.length ∧ 0 < A2.length ∧ 0 < B1.length ∧ B2.length = 0) ∨ (0 < A1.length ∧ A2.length = 0 ∧ 0 < B1.length ∧ 0 < B2.length) ∨ (0 < A1.length ∧ 0 < A2.length ∧ B1.length = 0 ∧ 0 < B2.length) ∨ (0 < A1.length ∧ 0 < A2.length ∧ B1.length = 0 ∧ B2.length = 0) ∨ (0 < A1.length ∧ A2.length = 0 ∧ B1.length = 0 ∧ 0 < B2.length) ∨ (A1.length = 0 ∧ 0 < A2.length ∧ 0 < B1.length ∧ 0 < B2.length) ∨ (A1.length = 0 ∧ 0 < A2.length ∧ 0 < B1.length ∧ B2.length = 0) ∨ (A1.length = 0 ∧ A2.length = 0 ∧ 0 < B1.length ∧ 0 < B2.length) by have := LA.out; have := LS.out; omega) with ⟨n1, n2, n3, n4⟩ | ⟨n1, n2, n3, n4⟩ | ⟨n1, n2, n3, n4⟩ | ⟨n1, n2, n3, n4⟩ | ⟨n1, n2, n3, n4⟩ | ⟨n1, n2, n3, n4⟩ | ⟨n1, n2, n3, n4⟩ | ⟨n1, n2, n3, n4⟩ | ⟨n1, n2, n3, n4⟩
        · have f1 : (i : Int) < (m : Int) := by have := LA.out; have := LS.out; omega
          have f2 : (m : Int) < (f : Int) := by have := LA.out; have := LS.out; omega
          have f3 : (a : Int) < (i : Int) := by have := LA.out; have := LS.out; omega
          have f4 : (i : Int) < (d : Int) := by have := LA.out; have := LS.out; omega
          have f5 : (d : Int) < (f : Int) := by have := LA.out; have := LS.out; omega
          have f6 : (f : Int) < (e : Int) := by have := LA.out; have := LS.out; omega
          have HN1 := hid (And.intro n2 n3)
          have HNN := hid (And.intro n1 (And.intro n2 (And.intro n3 n4)))
          clear n1 n2 n3 n4
          have C1 := hid (rotate_t (tc := tc) (cap := cap) (l := l) (za := (i : Int)) (zm := (m : Int)) (zb := (f : Int)) (cv := .func (.func 120) #[] #[]) (P ++ A1) A2 B1 (B2 ++ T) wr (by simp) (by rw [HLN.out]; simp; omega) (by have := LS.out; have := LP.out; simp; omega) (by have := LS.out; have := LP.out; have := LA.out; simp; omega) (by have := LS.out; have := LP.out; have := LA.out; simp; omega) HK0.out (by intro hn; have := HNN.out; rw [hn] at this; simp at this) (by intro hn; have := HNN.out; rw [hn] at this; simp at this) hcap hcap2)
          go_wp2_with fail
          with_reducible refine C1.out.mono ?_
          rintro r w1 ⟨rfl, hk1⟩
          have HK1 : Hid (SortAt (encT tc) 3 w b o (P ++ A1 ++ B1 ++ A2 ++ B2 ++ T) w1) := hid (by simpa using hk1)
          clear hk1
          have C2 := hid (HIH.out P A1 B1 (A2 ++ B2 ++ T) _ w1 l a i d (by have := HNN.out; have := HSZ.out; omega) HNN.out.1 HNN.out.2.2.1 HSA.out.1 HSA.out.2.2.1 (by simp) (by rw [HLN.out]; simp; omega) LP.out LS.out.1 (by have := LS.out; have := LA.out; omega) HK1.out hcap hcap2)
          go_wp2_with fail
          with_reducible refine C2.out.mono ?_
          rintro r w2 ⟨rfl, hk2⟩
          have HK2 : Hid (SortAt (encT tc) 3 w b o (P ++ mergeL le A1 B1 ++ A2 ++ B2 ++ T) w2) := hid (by simpa using hk2)
          clear hk2
          have C3 := hid (HIH.out (P ++ mergeL le A1 B1) A2 B2 T _ w2 l d f e (by have := HNN.out; have := HSZ.out; omega) HNN.out.2.1 HNN.out.2.2.2 HSA.out.2.1 HSA.out.2.2.2 (by simp) (by rw [HLN.out]; simp; omega) (by have := LS.out; have := LA.out; have := LP.out; simp; omega) (by have := LS.out; have := LA.out; omega) (by have := LS.out; have := LA.out; omega) HK2.out hcap hcap2)
          go_wp2_with fail
          with_reducible refine C3.out.mono ?_
          rintro r w3 ⟨rfl, hk3⟩
          have HK3 : Hid (SortAt (encT tc) 3 w b o (P ++ mergeL le A B ++ T) w3) := hid (by rw [HMG.out]; simpa using hk3)
          clear hk3
          go_wp2
          all_goals
            go_end0
            exact ⟨rfl, by first | (with_reducible exact HK3.out) | (rw [← List.append_assoc]; with_reducible exact HK3.out)⟩
        · have f1 : (i : Int) < (m : Int) := by have := LA.out; have := LS.out; omega
          have f2 : (m : Int) < (f : Int) := by have := LA.out; have := LS.out; omega
          have f3 : (a : Int) < (i : Int) := by have := LA.out; have := LS.out; omega
          have f4 : (i : Int) < (d : Int) := by have := LA.out; have := LS.out; omega
          have f5 : (d : Int) < (f : Int) := by have := LA.out; have := LS.out; omega
          have f6 : (e : Int) ≤ (f : Int) := by have := LA.out; have := LS.out; omega
          have hzB2 : B2 = [] := List.length_eq_zero_iff.1 (by omega)
          have HZ := hid (And.intro (rfl : 0 = 0) hzB2)
          clear hzB2
          have HN1 := hid (And.intro n2 n3)
          have HNN := hid (And.intro n1 (And.intro n2 (And.intro n3 n4)))
          clear n1 n2 n3 n4
          have C1 := hid (rotate_t (tc := tc) (cap := cap) (l := l) (za := (i : Int)) (zm := (m : Int)) (zb := (f : Int)) (cv := .func (.func 120) #[] #[]) (P ++ A1) A2 B1 (B2 ++ T) wr (by simp) (by rw [HLN.out]; simp; omega) (by have := LS.out; have := LP.out; simp; omega) (by have := LS.out; have := LP.out; have := LA.out; simp; omega) (by have := LS.out; have := LP.out; have := LA.out; simp; omega) HK0.out (by intro hn; have := HNN.out; rw [hn] at this; simp at this) (by intro hn; have := HNN.out; rw [hn] at this; simp at this) hcap hcap2)
          go_wp2_with fail
          with_reducible refine C1.out.mono ?_
          rintro r w1 ⟨rfl, hk1⟩
          have HK1 : Hid (SortAt (encT tc) 3 w b o (P ++ A1 ++ B1 ++ A2 ++ B2 ++ T) w1) := hid (by simpa using hk1)
          clear hk1
          have C2 := hid (HIH.out P A1 B1 (A2 ++ B2 ++ T) _ w1 l a i d (by have := HNN.out; have := HSZ.out; omega) HNN.out.1 HNN.out.2.2.1 HSA.out.1 HSA.out.2.2.1 (by simp) (by rw [HLN.out]; simp; omega) LP.out LS.out.1 (by have := LS.out; have := LA.out; omega) HK1.out hcap hcap2)
          go_wp2_with fail
          with_reducible refine C2.out.mono ?_
          rintro r w2 ⟨rfl, hk2⟩
          have HK2 : Hid (SortAt (encT tc) 3 w b o (P ++ mergeL le A1 B1 ++ A2 ++ B2 ++ T) w2) := hid (by simpa using hk2)
          clear hk2
          have HK3 : Hid (SortAt (encT tc) 3 w b o (P ++ mergeL le A B ++ T) w2) := hid (by
            have := HK2.out
            rw [HMG.out]
            obtain ⟨-, hzB2⟩ := HZ.out
            subst hzB2
            simpa [mergeL_nil, mergeL_right] using this)
          go_wp2
          all_goals
            go_end0
            exact ⟨rfl, by first | (with_reducible exact HK3.out) | (rw [← List.append_assoc]; with_reducible exact HK3.out)⟩
        · have f1 : (m : Int) ≤ (i : Int) := by have := LA.out; have := LS.out; omega
          have f2 : (m : Int) < (f : Int) := by have := LA.out; have := LS.out; omega
          have f3 : (a : Int) < (i : Int) := by have := LA.out; have := LS.out; omega
          have f4 : (i : Int) < (d : Int) := by have := LA.out; have := LS.out; omega
          have f5 : (f : Int) ≤ (d : Int) := by have := LA.out; have := LS.out; omega
          have f6 : (f : Int) < (e : Int) := by have := LA.out; have := LS.out; omega
          have hzA2 : A2 = [] := List.length_eq_zero_iff.1 (by omega)
          have HZ := hid (And.intro (rfl : 0 = 0) hzA2)
          clear hzA2
          have HNN := hid (And.intro n1 (And.intro n2 (And.intro n3 n4)))
          clear n1 n2 n3 n4
          have HK1 : Hid (SortAt (encT tc) 3 w b o (P ++ A1 ++ B1 ++ A2 ++ B2 ++ T) wr) := hid (by
            have := HK0.out
            obtain ⟨-, hzA2⟩ := HZ.out
            subst hzA2
            simpa using this)
          have C2 := hid (HIH.out P A1 B1 (A2 ++ B2 ++ T) _ wr l a i d (by have := HNN.out; have := HSZ.out; omega) HNN.out.1 HNN.out.2.2.1 HSA.out.1 HSA.out.2.2.1 (by simp) (by rw [HLN.out]; simp; omega) LP.out LS.out.1 (by have := LS.out; have := LA.out; omega) HK1.out hcap hcap2)
          go_wp2_with fail
          with_reducible refine C2.out.mono ?_
          rintro r w2 ⟨rfl, hk2⟩
          have HK2 : Hid (SortAt (encT tc) 3 w b o (P ++ mergeL le A1 B1 ++ A2 ++ B2 ++ T) w2) := hid (by simpa using hk2)
          clear hk2
          have HK3 : Hid (SortAt (encT tc) 3 w b o (P ++ mergeL le A B ++ T) w2) := hid (by
            have := HK2.out
            rw [HMG.out]
            obtain ⟨-, hzA2⟩ := HZ.out
            subst hzA2
            simpa [mergeL_nil, mergeL_right] using this)
          go_wp2
          all_goals
            go_end0
            exact ⟨rfl, by first | (with_reducible exact HK3.out) | (rw [← List.append_assoc]; with_reducible exact HK3.out)⟩
        · have f1 : (i : Int) < (m : Int) := by have := LA.out; have := LS.out; omega
          have f2 : (f : Int) ≤ (m : Int) := by have := LA.out; have := LS.out; omega
          have f3 : (a : Int) < (i : Int) := by have := LA.out; have := LS.out; omega
          have f4 : (d : Int) ≤ (i : Int) := by have := LA.out; have := LS.out; omega
          have f5 : (d : Int) < (f : Int) := by have := LA.out; have := LS.out; omega
          have f6 : (f : Int) < (e : Int) := by have := LA.out; have := LS.out; omega
          have hzB1 : B1 = [] := List.length_eq_zero_iff.1 (by omega)
          have HZ := hid (And.intro (rfl : 0 = 0) hzB1)
          clear hzB1
          have HNN := hid (And.intro n1 (And.intro n2 (And.intro n3 n4)))
          clear n1 n2 n3 n4
          have HK1 : Hid (SortAt (encT tc) 3 w b o (P ++ A1 ++ B1 ++ A2 ++ B2 ++ T) wr) := hid (by
            have := HK0.out
            obtain ⟨-, hzB1⟩ := HZ.out
            subst hzB1
            simpa using this)
          have HK2 : Hid (SortAt (encT tc) 3 w b o (P ++ mergeL le A1 B1 ++ A2 ++ B2 ++ T) wr) := hid (by
            have := HK1.out
            obtain ⟨-, hzB1⟩ := HZ.out
            subst hzB1
            simpa [mergeL_nil, mergeL_right] using this)
          have C3 := hid (HIH.out (P ++ mergeL le A1 B1) A2 B2 T _ wr l d f e (by have := HNN.out; have := HSZ.out; omega) HNN.out.2.1 HNN.out.2.2.2 HSA.out.2.1 HSA.out.2.2.2 (by simp) (by rw [HLN.out]; simp; omega) (by have := LS.out; have := LA.out; have := LP.out; simp; omega) (by have := LS.out; have := LA.out; omega) (by have := LS.out; have := LA.out; omega) HK2.out hcap hcap2)
          go_wp2_with fail
          with_reducible refine C3.out.mono ?_
          rintro r w3 ⟨rfl, hk3⟩
          have HK3 : Hid (SortAt (encT tc) 3 w b o (P ++ mergeL le A B ++ T) w3) := hid (by rw [HMG.out]; simpa using hk3)
          clear hk3
          go_wp2
          all_goals
            go_end0
            exact ⟨rfl, by first | (with_reducible exact HK3.out) | (rw [← List.append_assoc]; with_reducible exact HK3.out)⟩
        · have f1 : (i : Int) < (m : Int) := by have := LA.out; have := LS.out; omega
          have f2 : (f : Int) ≤ (m : Int) := by have := LA.out; have := LS.out; omega
          have f3 : (a : Int) < (i : Int) := by have := LA.out; have := LS.out; omega
          have f4 : (d : Int) ≤ (i : Int) := by have := LA.out; have := LS.out; omega
          have f5 : (d : Int) < (f : Int) := by have := LA.out; have := LS.out; omega
          have f6 : (e : Int) ≤ (f : Int) := by have := LA.out; have := LS.out; omega
          have hzB1 : B1 = [] := List.length_eq_zero_iff.1 (by omega)
          have hzB2 : B2 = [] := List.length_eq_zero_iff.1 (by omega)
          have HZ := hid (And.intro (rfl : 0 = 0) (And.intro hzB1 hzB2))
          clear hzB1
          clear hzB2
          have HNN := hid (And.intro n1 (And.intro n2 (And.intro n3 n4)))
          clear n1 n2 n3 n4
          have HK1 : Hid (SortAt (encT tc) 3 w b o (P ++ A1 ++ B1 ++ A2 ++ B2 ++ T) wr) := hid (by
            have := HK0.out
            obtain ⟨-, hzB1, hzB2⟩ := HZ.out
            subst hzB1 hzB2
            simpa using this)
          have HK2 : Hid (SortAt (encT tc) 3 w b o (P ++ mergeL le A1 B1 ++ A2 ++ B2 ++ T) wr) := hid (by
            have := HK1.out
            obtain ⟨-, hzB1, hzB2⟩ := HZ.out
            subst hzB1 hzB2
            simpa [mergeL_nil, mergeL_right] using this)
          have HK3 : Hid (SortAt (encT tc) 3 w b o (P ++ mergeL le A B ++ T) wr) := hid (by
            have := HK2.out
            rw [HMG.out]
            obtain ⟨-, hzB1, hzB2⟩ := HZ.out
            subst hzB1 hzB2
            simpa [mergeL_nil, mergeL_right] using this)
          go_wp2
          all_goals
            go_end0
            exact ⟨rfl, by first | (with_reducible exact HK3.out) | (rw [← List.append_assoc]; with_reducible exact HK3.out)⟩
        · have f1 : (m : Int) ≤ (i : Int) := by have := LA.out; have := LS.out; omega
          have f2 : (f : Int) ≤ (m : Int) := by have := LA.out; have := LS.out; omega
          have f3 : (a : Int) < (i : Int) := by have := LA.out; have := LS.out; omega
          have f4 : (d : Int) ≤ (i : Int) := by have := LA.out; have := LS.out; omega
          have f5 : (f : Int) ≤ (d : Int) := by have := LA.out; have := LS.out; omega
          have f6 : (f : Int) < (e : Int) := by have := LA.out; have := LS.out; omega
          have hzA2 : A2 = [] := List.length_eq_zero_iff.1 (by omega)
          have hzB1 : B1 = [] := List.length_eq_zero_iff.1 (by omega)
          have HZ := hid (And.intro (rfl : 0 = 0) (And.intro hzA2 hzB1))
          clear hzA2
          clear hzB1
          have HNN := hid (And.intro n1 (And.intro n2 (And.intro n3 n4)))
          clear n1 n2 n3 n4
          have HK1 : Hid (SortAt (encT tc) 3 w b o (P ++ A1 ++ B1 ++ A2 ++ B2 ++ T) wr) := hid (by
            have := HK0.out
            obtain ⟨-, hzA2, hzB1⟩ := HZ.out
            subst hzA2 hzB1
            simpa using this)
          have HK2 : Hid (SortAt (encT tc) 3 w b o (P ++ mergeL le A1 B1 ++ A2 ++ B2 ++ T) wr) := hid (by
            have := HK1.out
            obtain ⟨-, hzA2, hzB1⟩ := HZ.out
            subst hzA2 hzB1
            simpa [mergeL_nil, mergeL_right] using this)
          have HK3 : Hid (SortAt (encT tc) 3 w b o (P ++ mergeL le A B ++ T) wr) := hid (by
            have := HK2.out
            rw [HMG.out]
            obtain ⟨-, hzA2, hzB1⟩ := HZ.out
            subst hzA2 hzB1
            simpa [mergeL_nil, mergeL_right] using this)
          go_wp2
          all_goals
            go_end0
            exact ⟨rfl, by first | (with_reducible exact HK3.out) | (rw [← List.append_assoc]; with_reducible exact HK3.out)⟩
        · have f1 : (i : Int) < (m : Int) := by have := LA.out; have := LS.out; omega
          have f2 : (m : Int) < (f : Int) := by have := LA.out; have := LS.out; omega
          have f3 : (i : Int) ≤ (a : Int) := by have := LA.out; have := LS.out; omega
          have f4 : (i : Int) < (d : Int) := by have := LA.out; have := LS.out; omega
          have f5 : (d : Int) < (f : Int) := by have := LA.out; have := LS.out; omega
          have f6 : (f : Int) < (e : Int) := by have := LA.out; have := LS.out; omega
          have hzA1 : A1 = [] := List.length_eq_zero_iff.1 (by omega)
          have HZ := hid (And.intro (rfl : 0 = 0) hzA1)
          clear hzA1
          have HN1 := hid (And.intro n2 n3)
          have HNN := hid (And.intro n1 (And.intro n2 (And.intro n3 n4)))
          clear n1 n2 n3 n4
          have C1 := hid (rotate_t (tc := tc) (cap := cap) (l := l) (za := (i : Int)) (zm := (m : Int)) (zb := (f : Int)) (cv := .func (.func 120) #[] #[]) (P ++ A1) A2 B1 (B2 ++ T) wr (by simp) (by rw [HLN.out]; simp; omega) (by have := LS.out; have := LP.out; simp; omega) (by have := LS.out; have := LP.out; have := LA.out; simp; omega) (by have := LS.out; have := LP.out; have := LA.out; simp; omega) HK0.out (by intro hn; have := HNN.out; rw [hn] at this; simp at this) (by intro hn; have := HNN.out; rw [hn] at this; simp at this) hcap hcap2)
          go_wp2_with fail
          with_reducible refine C1.out.mono ?_
          rintro r w1 ⟨rfl, hk1⟩
          have HK1 : Hid (SortAt (encT tc) 3 w b o (P ++ A1 ++ B1 ++ A2 ++ B2 ++ T) w1) := hid (by simpa using hk1)
          clear hk1
          have HK2 : Hid (SortAt (encT tc) 3 w b o (P ++ mergeL le A1 B1 ++ A2 ++ B2 ++ T) w1) := hid (by
            have := HK1.out
            obtain ⟨-, hzA1⟩ := HZ.out
            subst hzA1
            simpa [mergeL_nil, mergeL_right] using this)
          have C3 := hid (HIH.out (P ++ mergeL le A1 B1) A2 B2 T _ w1 l d f e (by have := HNN.out; have := HSZ.out; omega) HNN.out.2.1 HNN.out.2.2.2 HSA.out.2.1 HSA.out.2.2.2 (by simp) (by rw [HLN.out]; simp; omega) (by have := LS.out; have := LA.out; have := LP.out; simp; omega) (by have := LS.out; have := LA.out; omega) (by have := LS.out; have := LA.out; omega) HK2.out hcap hcap2)
          go_wp2_with fail
          with_reducible refine C3.out.mono ?_
          rintro r w3 ⟨rfl, hk3⟩
          have HK3 : Hid (SortAt (encT tc) 3 w b o (P ++ mergeL le A B ++ T) w3) := hid (by rw [HMG.out]; simpa using hk3)
          clear hk3
          go_wp2
          all_goals
            go_end0
            exact ⟨rfl, by first | (with_reducible exact HK3.out) | (rw [← List.append_assoc]; with_reducible exact HK3.out)⟩
        · have f1 : (i : Int) < (m : Int) := by have := LA.out; have := LS.out; omega
          have f2 : (m : Int) < (f : Int) := by have := LA.out; have := LS.out; omega
          have f3 : (i : Int) ≤ (a : Int) := by have := LA.out; have := LS.out; omega
          have f4 : (i : Int) < (d : Int) := by have := LA.out; have := LS.out; omega
          have f5 : (d : Int) < (f : Int) := by have := LA.out; have := LS.out; omega
          have f6 : (e : Int) ≤ (f : Int) := by have := LA.out; have := LS.out; omega
          have hzA1 : A1 = [] := List.length_eq_zero_iff.1 (by omega)
          have hzB2 : B2 = [] := List.length_eq_zero_iff.1 (by omega)
          have HZ := hid (And.intro (rfl : 0 = 0) (And.intro hzA1 hzB2))
          clear hzA1
          clear hzB2
          have HN1 := hid (And.intro n2 n3)
          have HNN := hid (And.intro n1 (And.intro n2 (And.intro n3 n4)))
          clear n1 n2 n3 n4
          have C1 := hid (rotate_t (tc := tc) (cap := cap) (l := l) (za := (i : Int)) (zm := (m : Int)) (zb := (f : Int)) (cv := .func (.func 120) #[] #[]) (P ++ A1) A2 B1 (B2 ++ T) wr (by simp) (by rw [HLN.out]; simp; omega) (by have := LS.out; have := LP.out; simp; omega) (by have := LS.out; have := LP.out; have := LA.out; simp; omega) (by have := LS.out; have := LP.out; have := LA.out; simp; omega) HK0.out (by intro hn; have := HNN.out; rw [hn] at this; simp at this) (by intro hn; have := HNN.out; rw [hn] at this; simp at this) hcap hcap2)
          go_wp2_with fail
          with_reducible refine C1.out.mono ?_
          rintro r w1 ⟨rfl, hk1⟩
          have HK1 : Hid (SortAt (encT tc) 3 w b o (P ++ A1 ++ B1 ++ A2 ++ B2 ++ T) w1) := hid (by simpa using hk1)
          clear hk1
          have HK2 : Hid (SortAt (encT tc) 3 w b o (P ++ mergeL le A1 B1 ++ A2 ++ B2 ++ T) w1) := hid (by
            have := HK1.out
            obtain ⟨-, hzA1, hzB2⟩ := HZ.out
            subst hzA1 hzB2
            simpa [mergeL_nil, mergeL_right] using this)
          have HK3 : Hid (SortAt (encT tc) 3 w b o (P ++ mergeL le A B ++ T) w1) := hid (by
            have := HK2.out
            rw [HMG.out]
            obtain ⟨-, hzA1, hzB2⟩ := HZ.out
            subst hzA1 hzB2
            simpa [mergeL_nil, mergeL_right] using this)
          go_wp2
          all_goals
            go_end0
            exact ⟨rfl, by first | (with_reducible exact HK3.out) | (rw [← List.append_assoc]; with_reducible exact HK3.out)⟩
        · have f1 : (m : Int) ≤ (i : Int) := by have := LA.out; have := LS.out; omega
          have f2 : (m : Int) < (f : Int) := by have := LA.out; have := LS.out; omega
          have f3 : (i : Int) ≤ (a : Int) := by have := LA.out; have := LS.out; omega
          have f4 : (i : Int) < (d : Int) := by have := LA.out; have := LS.out; omega
          have f5 : (f : Int) ≤ (d : Int) := by have := LA.out; have := LS.out; omega
          have f6 : (f : Int) < (e : Int) := by have := LA.out; have := LS.out; omega
          have hzA1 : A1 = [] := List.length_eq_zero_iff.1 (by omega)
          have hzA2 : A2 = [] := List.length_eq_zero_iff.1 (by omega)
          have HZ := hid (And.intro (rfl : 0 = 0) (And.intro hzA1 hzA2))
          clear hzA1
          clear hzA2
          have HNN := hid (And.intro n1 (And.intro n2 (And.intro n3 n4)))
          clear n1 n2 n3 n4
          have HK1 : Hid (SortAt (encT tc) 3 w b o (P ++ A1 ++ B1 ++ A2 ++ B2 ++ T) wr) := hid (by
            have := HK0.out
            obtain ⟨-, hzA1, hzA2⟩ := HZ.out
            subst hzA1 hzA2
            simpa using this)
          have HK2 : Hid (SortAt (encT tc) 3 w b o (P ++ mergeL le A1 B1 ++ A2 ++ B2 ++ T) wr) := hid (by
            have := HK1.out
            obtain ⟨-, hzA1, hzA2⟩ := HZ.out
            subst hzA1 hzA2
            simpa [mergeL_nil, mergeL_right] using this)
          have HK3 : Hid (SortAt (encT tc) 3 w b o (P ++ mergeL le A B ++ T) wr) := hid (by
            have := HK2.out
            rw [HMG.out]
            obtain ⟨-, hzA1, hzA2⟩ := HZ.out
            subst hzA1 hzA2
            simpa [mergeL_nil, mergeL_right] using this)
          go_wp2
          all_goals
            go_end0
            exact ⟨rfl, by first | (with_reducible exact HK3.out) | (rw [← List.append_assoc]; with_reducible exact HK3.out)⟩

theorem sym_merge_t (hc : CmpT 120 tc cf w b) (hcl : CmpLe cf le) {cap : Nat} : ∀ (N : Nat) (P A B T cur : List α) (W : World) (l a m e : Nat), A.length + B.length < N → 0 < A.length → 0 < B.length → SortedL le A → SortedL le B → cur = P ++ A ++ B ++ T → l = cur.length → a = P.length → m = a + A.length → e = m + B.length → SortAt (encT tc) 3 w b o cur W → l ≤ cap → l ≤ 1000000000000 →
      Calls Tryz.prog 153 #[.slice (some ⟨b, o, none⟩) l cap, .int .i64 a, .int .i64 m, .int .i64 e, .func (.func 120) #[] #[]] W
        fun r w' => r = .returned (.tuple #[]) ∧ SortAt (encT tc) 3 w b o (P ++ mergeL le A B ++ T) w' := by
  intro N
  induction N with
  | zero => intro P A B T cur W l a m e hN; omega
  | succ N ih =>
    intro P A B T cur W l a m e hN hA0 hB0 hA hB hcur hl ha hm he h hcap hcap2
    match A, hA0, hA, hcur, hm, hN with
    | [x], _, hA, hcur, hm, hN => exact sym_one_t P B T x cur W hc hcl (by rw [hcur]; simp) hl ha (by simpa using hm) (by rw [he, hm]; simp) h hB hcap hcap2
    | x :: x' :: A, _, hA, hcur, hm, hN =>
      match B, hB0, hB, hcur, he, hN with
      | [y], _, hB, hcur, he, hN => exact sym_last_t P (x :: x' :: A) T y cur W hc hcl (by rw [hcur]; simp) hl ha hm (by simpa using he) (by simp) h hA hcap hcap2
      | y :: y' :: B, _, hB, hcur, he, hN =>
        exact sym_step_t P (x :: x' :: A) (y :: y' :: B) T cur W hc hcl hcur hl ha hm he (by simp) (by simp) (fun P A' B' T cur W l a m e hlt => ih P A' B' T cur W l a m e (by omega)) h hA hB hcap hcap2
end
end Go.Proofs.YthplgldclilccaaGreat

namespace Go.Proofs.YthplgldclilccaaGreat
open Go.RowKit Go.Sort

section
variable {α : Type} {le : α → α → Bool}
/-- blocks of a size, each sorted, the last one maybe shorter -/
inductive Blk (le : α → α → Bool) (s : Nat) : List α → List α → Prop where
  | nil : Blk le s [] []
  | last (X : List α) (h0 : 0 < X.length) (h : X.length ≤ s) : Blk le s (sortL le X) X
  | cons (X R O : List α) (h : X.length = s) (t : Blk le s R O) : Blk le s (sortL le X ++ R) (X ++ O)
/-- full blocks -/
inductive Full (le : α → α → Bool) (s : Nat) : List α → List α → Prop where
  | nil : Full le s [] []
  | cons (X R O : List α) (h : X.length = s) (t : Full le s R O) : Full le s (sortL le X ++ R) (X ++ O)
theorem Blk.len {s : Nat} {R O : List α} (h : Blk le s R O) : R.length = O.length := by
  induction h with
  | nil => rfl
  | last X _ _ => exact sortL_len X
  | cons X R O h t ih => simp [sortL_len, ih]
theorem Full.len {s : Nat} {R O : List α} (h : Full le s R O) : R.length = O.length := by
  induction h with
  | nil => rfl
  | cons X R O h t ih => simp [sortL_len, ih]
theorem Full.snoc {s : Nat} {R O X : List α} (h : Full le s R O) (hX : X.length = s) : Full le s (R ++ sortL le X) (O ++ X) := by
  induction h with
  | nil =>
    have := Full.cons (le := le) X [] [] hX Full.nil
    simpa using this
  | cons Y R O h t ih =>
    have := Full.cons Y _ _ h ih
    simpa using this
theorem Full.blk {s : Nat} {R O R2 O2 : List α} (h : Full le s R O) (h2 : Blk le s R2 O2) : Blk le s (R ++ R2) (O ++ O2) := by
  induction h with
  | nil => exact h2
  | cons Y R O h t ih =>
    have := Blk.cons Y _ _ h ih
    simpa using this
theorem Blk.two {s : Nat} {R O : List α} (h : Blk le s R O) (hs : 0 < s) (h2 : s + s ≤ R.length) : ∃ X Y R' O', R = sortL le X ++ (sortL le Y ++ R') ∧ O = X ++ (Y ++ O') ∧ X.length = s ∧ Y.length = s ∧ Blk le s R' O' := by
  cases h with
  | nil => simp at h2; omega
  | last X h0 h => rw [sortL_len] at h2; omega
  | cons X R O h t =>
    simp only [List.length_append, sortL_len] at h2
    cases t with
    | nil => simp at h2; omega
    | last Y h0 h' =>
      rw [sortL_len] at h2
      exact ⟨X, O, [], [], by simp, by simp, h, by omega, .nil⟩
    | cons Y R O h' t => exact ⟨X, Y, R, O, rfl, rfl, h, h', t⟩
theorem Blk.part {s : Nat} {R O : List α} (h : Blk le s R O) (_hs : 0 < s) (h1 : s < R.length) (h2 : R.length < s + s) : ∃ X Y, R = sortL le X ++ sortL le Y ∧ O = X ++ Y ∧ X.length = s ∧ 0 < Y.length := by
  cases h with
  | nil => simp at h1
  | last X h0 h => rw [sortL_len] at h1; omega
  | cons X R O h t =>
    simp only [List.length_append, sortL_len] at h1 h2
    cases t with
    | nil => simp at h1; omega
    | last Y h0 h' => exact ⟨X, O, rfl, rfl, h, h0⟩
    | cons Y R O h' t => simp [sortL_len] at h2; omega
theorem Blk.one {s : Nat} {R O : List α} (h : Blk le s R O) (h1 : R.length ≤ s) : R = sortL le O := by
  cases h with
  | nil => rfl
  | last X h0 h => rfl
  | cons X R O h t =>
    simp only [List.length_append, sortL_len] at h1
    obtain rfl : R = [] := List.length_eq_zero_iff.1 (by omega)
    have := t.len
    obtain rfl : O = [] := List.length_eq_zero_iff.1 (by simpa using this.symm)
    simp
theorem Blk.of_sort {s : Nat} {O : List α} (h : O.length ≤ s) : Blk le s (sortL le O) O := by
  rcases Nat.eq_zero_or_pos O.length with h0 | h0
  · obtain rfl := List.length_eq_zero_iff.1 h0
    exact .nil
  · exact .last O h0 h
end

section
variable {α : Type} [Inhabited α] {tc : α → TCell} {w : World} {b o : Nat} {cf : α → α → Int} {le : α → α → Bool}

theorem insertion_t' {cap l : Nat} {za zb : Int} {cur : List α} (P X T : List α) (W : World) (hc : CmpT 120 tc cf w b) (hcl : CmpLe cf le) (hcur : cur = P ++ X ++ T) (hl : l = cur.length) (hza : za = P.length) (hzb : zb = P.length + X.length) (h : SortAt (encT tc) 3 w b o cur W) (hcap : l ≤ cap) (hcap2 : l ≤ 1000000000000) :
    Calls Tryz.prog 152 #[.slice (some ⟨b, o, none⟩) l cap, .int .i64 za, .int .i64 zb, .func (.func 120) #[] #[]] W
      fun e w' => e = .returned (.tuple #[]) ∧ SortAt (encT tc) 3 w b o (P ++ sortL le X ++ T) w' := by
  subst hcur hl hza
  obtain rfl : zb = ((P.length + X.length : Nat) : Int) := by rw [hzb]; omega
  exact insertion_t cap P X T W hc hcl h hcap hcap2
theorem sym_merge_t' (hc : CmpT 120 tc cf w b) (hcl : CmpLe cf le) {cap l : Nat} (hcap2 : l ≤ 1000000000000) {za zm ze : Int} {cur : List α} (P A B T : List α) (W : World) (hA0 : 0 < A.length) (hB0 : 0 < B.length) (hA : SortedL le A) (hB : SortedL le B) (hcur : cur = P ++ A ++ B ++ T) (hl : l = cur.length) (hza : za = P.length) (hzm : zm = P.length + A.length) (hze : ze = P.length + A.length + B.length)
    (h : SortAt (encT tc) 3 w b o cur W) (hcap : l ≤ cap) :
      Calls Tryz.prog 153 #[.slice (some ⟨b, o, none⟩) l cap, .int .i64 za, .int .i64 zm, .int .i64 ze, .func (.func 120) #[] #[]] W
        fun r w' => r = .returned (.tuple #[]) ∧ SortAt (encT tc) 3 w b o (P ++ mergeL le A B ++ T) w' := by
  subst hza
  obtain rfl : zm = ((P.length + A.length : Nat) : Int) := by rw [hzm]; omega
  obtain rfl : ze = ((P.length + A.length + B.length : Nat) : Int) := by rw [hze]; omega
  exact sym_merge_t hc hcl _ P A B T cur W l _ _ _ (Nat.lt_succ_self _) hA0 hB0 hA hB hcur hl rfl rfl rfl h hcap hcap2

set_option maxRecDepth 100000 in
set_option maxHeartbeats 8000000 in
theorem stable_t {cap n : Nat} (L : List α) (W : World) (hc : CmpT 120 tc cf w b) (hcl : CmpLe cf le) (hl : n = L.length) (h : SortAt (encT tc) 3 w b o L W) (hcap : n ≤ cap) (hcap2 : n ≤ 1000000000000) :
    Calls Tryz.prog 141 #[.slice (some ⟨b, o, none⟩) n cap, .int .i64 n, .func (.func 120) #[] #[]] W
      fun e w' => e = .returned (.tuple #[]) ∧ SortAt (encT tc) 3 w b o (sortL le L) w' := by
  have H := hid h
  have HC := hid hc
  have HL := hid hcl
  have HN := hid hl
  clear h hc hcl hl
  go_enter Tryz.func141, Tryz.ntmps141
  go_wp2
  go_loopw [7, 8] (fun va vb wr => ∃ (a c : Nat) (S O R : List α), va = .int .i64 a ∧ vb = .int .i64 c ∧ a ≤ n ∧ Hid (c = a + 20) ∧ c ≤ n + 20 ∧ Hid (a = O.length) ∧ Hid (L = O ++ R) ∧ Hid (Full le 20 S O) ∧ SortAt (encT tc) 3 w b o (S ++ R) wr) (fun va vb _ => n - (intOf va).toNat)
  case atStart => exact ⟨0, 20, [], [], L, rfl, rfl, by omega, rfl, by omega, rfl, rfl, .nil, H.out⟩
  case round =>
    obtain ⟨a, c, S, O, R, rfl, rfl, han, HCA, hcn, HA, HLL, HF, hs⟩ := hrel
    have HS := hid hs
    clear hs
    have hn : n = O.length + R.length := by have := HN.out; rw [HLL.out] at this; simpa using this
    have hcl : n = (S ++ R).length := by rw [hn]; simp [HF.out.len]
    have HCL := hid hcl
    have HNN := hid hn
    clear hn hcl
    by_cases hlt : c ≤ n
    · obtain ⟨X, R', hX, hX20⟩ : ∃ X R', R = X ++ R' ∧ X.length = 20 := ⟨R.take 20, R.drop 20, (List.take_append_drop _ _).symm, by have := HNN.out; have := HA.out; have := HCA.out; rw [List.length_take]; omega⟩
      subst hX
      have HX := hid hX20
      have C := hid (insertion_t' (cap := cap) (l := n) (za := (a : Int)) (zb := (c : Int)) S X R' wr HC.out HL.out (by simp) HCL.out (by rw [HF.out.len]; have := HA.out; omega) (by rw [HF.out.len]; have := HA.out; have := HCA.out; omega) HS.out hcap hcap2)
      clear hX20
      go_wp2_with fail
      with_reducible refine C.out.mono ?_
      rintro e w2 ⟨rfl, hs2⟩
      have HS2 := hid hs2
      clear hs2
      go_wp2
      go_roundw
      case rel =>
        refine ⟨c, c + 20, S ++ sortL le X, O ++ X, R', rfl, by go_num, hlt, rfl, by omega, ?_, ?_, ?_, ?_⟩
        · show _ = _; have := HA.out; have := HX.out; have := HCA.out; simp; omega
        · show _ = _; rw [HLL.out]; simp
        · exact HF.out.snoc HX.out
        · exact HS2.out
      case measure => have := HCA.out; simp only [intOf]; omega
    · have C := hid (insertion_t' (cap := cap) (l := n) (za := (a : Int)) (zb := (n : Int)) S R [] wr HC.out HL.out (by simp) HCL.out (by rw [HF.out.len]; have := HA.out; omega) (by rw [HF.out.len]; have := HNN.out; omega) HS.out hcap hcap2)
      go_wp2_with fail
      with_reducible refine C.out.mono ?_
      rintro e w2 ⟨rfl, hs2⟩
      have HS2 := hid hs2
      have HB : Hid (Blk le 20 (S ++ sortL le R) L) := hid (by
        rw [HLL.out]
        exact HF.out.blk (.of_sort (by have := HNN.out; have := HA.out; have := HCA.out; omega)))
      clear hs2
      go_wp2
      go_loopw [6, 7, 8, 9] (fun vs va vb vm wr => ∃ (s : Nat) (za zb : Int) (cur : List α), vs = .int .i64 s ∧ va = .int .i64 za ∧ vb = .int .i64 zb ∧ 20 ≤ s ∧ s ≤ n + n + 20 ∧ Hid (Blk le s cur L) ∧ SortAt (encT tc) 3 w b o cur wr) (fun vs _ _ _ _ => n - (intOf vs).toNat)
      case atStart => exact ⟨20, a, c, _, rfl, rfl, rfl, by omega, by omega, HB, by have := HS2.out; simpa using this⟩
      case round =>
        clear HB HS2 HS HF HLL HCL HNN HCA HA hlt hcn han
        obtain ⟨s, za, zb, cur, rfl, rfl, rfl, hs20, hsn, HB, hs⟩ := hrel
        have HS := hid hs
        clear hs
        by_cases hlt : s < n
        · have HCN : Hid (n = cur.length) := hid (by rw [HN.out, HB.out.len])
          go_wp2
          go_loopw [7, 8] (fun va vb wr => ∃ (a c : Nat) (S O R O2 : List α), va = .int .i64 a ∧ vb = .int .i64 c ∧ a ≤ n ∧ Hid (c = a + (s + s)) ∧ c ≤ n + s + s ∧ Hid (a = O.length) ∧ Hid (L = O ++ O2) ∧ Hid (Full le (s + s) S O) ∧ Hid (Blk le s R O2) ∧ SortAt (encT tc) 3 w b o (S ++ R) wr) (fun va vb _ => n - (intOf va).toNat)
          case atStart => exact ⟨0, s + s, [], [], cur, L, rfl, by congr 1; omega, by omega, by show _ = _; omega, by omega, rfl, rfl, .nil, HB, HS.out⟩
          case round =>
            clear HCN HS HB
            obtain ⟨a, c, S, O, R, O2, rfl, rfl, han, HCA, hcn, HA, HLL, HF, HB, hs⟩ := hrel
            have HS := hid hs
            clear hs
            have hn : n = O.length + O2.length := by have := HN.out; rw [HLL.out] at this; simpa using this
            have hcl : n = (S ++ R).length := by rw [hn]; simp [HF.out.len, HB.out.len]
            have HCL := hid hcl
            have HNN := hid hn
            clear hn hcl
            by_cases hlt : c ≤ n
            · obtain ⟨X, Y, R', O', hR, hO, hX, hY, hB⟩ := HB.out.two (by omega) (by rw [HB.out.len]; have := HNN.out; have := HA.out; have := HCA.out; omega)
              have HX := hid (And.intro hX hY)
              have HO := hid hO
              have HB2 := hid hB
              have C := hid (sym_merge_t' HC.out HL.out (cap := cap) (l := n) hcap2 (za := (a : Int)) (zm := (a : Int) + (s : Int)) (ze := (c : Int)) (cur := S ++ R) S (sortL le X) (sortL le Y) R' wr (by rw [sortL_len]; omega) (by rw [sortL_len]; omega) (sortL_sorted HL.out.total X) (sortL_sorted HL.out.total Y) (by rw [hR]; simp) HCL.out (by rw [HF.out.len]; have := HA.out; omega) (by rw [HF.out.len, sortL_len]; have := HA.out; omega) (by rw [HF.out.len, sortL_len, sortL_len]; have := HA.out; have := HCA.out; omega) HS.out hcap)
              clear hR hO hX hY hB
              go_wp2_with fail
              with_reducible refine C.out.mono ?_
              rintro e w2 ⟨rfl, hs2⟩
              have HS2 := hid hs2
              clear hs2
              go_wp2
              go_roundw
              case rel =>
                refine ⟨c, c + (s + s), S ++ sortL le (X ++ Y), O ++ (X ++ Y), R', O', rfl, by congr 1; omega, hlt, rfl, by omega, ?_, ?_, ?_, HB2, ?_⟩
                · show _ = _; have := HA.out; have := HX.out; have := HCA.out; simp; omega
                · show _ = _; rw [HLL.out, HO.out]; simp
                · exact HF.out.snoc (by have := HX.out; simp; omega)
                · rw [sortL_append HL.out.total]
                  exact HS2.out
              case measure => have := HCA.out; simp only [intOf]; omega
            · by_cases hm : a + s < n
              · obtain ⟨X, Y, hR, hO, hX, hY⟩ := HB.out.part (by omega) (by rw [HB.out.len]; have := HNN.out; have := HA.out; omega) (by rw [HB.out.len]; have := HNN.out; have := HA.out; have := HCA.out; omega)
                have C := hid (sym_merge_t' HC.out HL.out (cap := cap) (l := n) hcap2 (za := (a : Int)) (zm := (a : Int) + (s : Int)) (ze := (n : Int)) (cur := S ++ R) S (sortL le X) (sortL le Y) [] wr (by rw [sortL_len]; omega) (by rw [sortL_len]; omega) (sortL_sorted HL.out.total X) (sortL_sorted HL.out.total Y) (by rw [hR]; simp) HCL.out (by rw [HF.out.len]; have := HA.out; omega) (by rw [HF.out.len, sortL_len]; have := HA.out; omega) (by rw [HF.out.len, sortL_len, sortL_len]; have h1 := HNN.out; rw [hO] at h1; simp at h1; omega) HS.out hcap)
                have HBB : Hid (Blk le (s + s) (S ++ mergeL le (sortL le X) (sortL le Y)) L) := hid (by
                  rw [HLL.out, hO, ← sortL_append HL.out.total]
                  refine HF.out.blk (.of_sort ?_)
                  have h1 := HNN.out
                  have h2 := HA.out
                  have h3 := HCA.out
                  rw [hO] at h1
                  omega)
                clear hR hO hX hY
                have q1 : (a : Int) + (s : Int) < (n : Int) := by omega
                go_wp2_with fail
                with_reducible refine C.out.mono ?_
                rintro e w2 ⟨rfl, hs2⟩
                have HS2 := hid hs2
                clear hs2
                go_wp2
                go_roundw
                case rel => exact ⟨s + s, _, _, _, by congr 1; omega, rfl, rfl, by omega, by omega, HBB, by have := HS2.out; simpa using this⟩
                case measure => simp only [intOf]; omega
              · have HBB : Hid (Blk le (s + s) (S ++ R) L) := hid (by
                  rw [HB.out.one (by rw [HB.out.len]; have := HNN.out; have := HA.out; omega), HLL.out]
                  refine HF.out.blk (.of_sort ?_)
                  have h1 := HNN.out
                  have h2 := HA.out
                  omega)
                have q1 : (n : Int) ≤ (a : Int) + (s : Int) := by omega
                go_wp2
                go_roundw
                case rel => exact ⟨s + s, _, _, _, by congr 1; omega, rfl, rfl, by omega, by omega, HBB, HS.out⟩
                case measure => simp only [intOf]; omega
        · have HF : Hid (SortAt (encT tc) 3 w b o (sortL le L) wr) := hid (by
            have := HB.out.one (by rw [HB.out.len, ← HN.out]; omega)
            rw [← this]
            exact HS.out)
          go_wp2
          go_end0
          exact ⟨rfl, HF.out⟩

set_option maxRecDepth 100000 in
theorem sort_t {cap n : Nat} (L : List α) (W : World) (hc : CmpT 120 tc cf w b) (hcl : CmpLe cf le) (hl : n = L.length) (h : SortAt (encT tc) 3 w b o L W) (hcap : n ≤ cap) (hcap2 : n ≤ 1000000000000) :
    Calls Tryz.prog 119 #[.slice (some ⟨b, o, none⟩) n cap, .func (.func 120) #[] #[]] W
      fun e w' => e = .returned (.tuple #[]) ∧ SortAt (encT tc) 3 w b o (sortL le L) w' := by
  have C := hid (stable_t L W hc hcl hl h hcap hcap2)
  clear hc hcl hl h
  go_enter Tryz.func119, Tryz.ntmps119
  go_wp2_with fail
  with_reducible refine C.out.mono ?_
  rintro e w2 ⟨rfl, hs2⟩
  have HS2 := hid hs2
  clear hs2
  go_wp2
  go_end0
  exact ⟨rfl, HS2.out⟩
end
end Go.Proofs.YthplgldclilccaaGreat

namespace Go.Proofs.YthplgldclilccaaGreat
open Go.RowKit

def iv (f : Nat → Int) : Nat → Value := fun j => .int .i64 (f j)
def tabA (f : Nat → Int) : Array Value := ((List.range 201).map (iv f)).toArray
def arrV (f : Nat → Int) : Value := .agg (tabA f)

theorem tabA_size (f : Nat → Int) : (tabA f).size = 201 := by simp [tabA]
theorem tabA_get (f : Nat → Int) {i : Nat} (h : i < 201) : (tabA f)[i]? = some (iv f i) := by simp [tabA, h]
theorem tabA_one (f : Nat → Int) : (tabA f).all (·.oneCell') = true := by
  refine Array.all_eq_true_iff_forall_mem.2 (fun v hv => ?_)
  simp only [tabA, List.mem_toArray, List.mem_map] at hv
  obtain ⟨j, _, rfl⟩ := hv
  rfl
theorem tabA_of {c : Array Value} {f : Nat → Int} (hs : c.size = 201) (h : ∀ i, i < 201 → c[i]? = some (iv f i)) : c = tabA f := by
  apply Array.ext_getElem?
  intro i
  by_cases hi : i < 201
  · rw [h i hi, tabA_get f hi]
  · rw [Array.getElem?_eq_none (by omega), Array.getElem?_eq_none (by rw [tabA_size]; omega)]

theorem Tryz.infoArr : (Tryz.prog.info? 127).map (fun i => (i.zero, i.size)) = some (some (.agg (tabA fun _ => 0)), 201) := by kernel_rfl
theorem Tryz.sizeArr : (Tryz.prog.info? 127).map (·.size) = some 201 := by kernel_rfl
theorem Tryz.sizeInt1 : (Tryz.prog.info? 3).map (·.size) = some 1 := by kernel_rfl

theorem alloc_arr (w : World) : (Instr.alloc 127 true (.tuple #[])).run Tryz.prog w = .ok (.pointer (some ⟨w.heap.size, 0, none⟩)) (w.alloc (.cells (tabA fun _ => 0) 127)) := by
  have hz := (zero_of_info Tryz.infoArr).1
  simp [Instr.alloc, hz, newVar, newRow, Value.cells]
theorem box_arr (f : Nat → Int) (w : World) : (Instr.box 127 (arrV f)).run Tryz.prog w = .ok (.pointer (some ⟨w.heap.size, 0, none⟩)) (w.alloc (.cells (tabA f) 127)) := by
  simp [Instr.box, newVar, newRow, Value.cells, arrV]
theorem row_new (f : Nat → Int) (w : World) : (w.alloc (.cells (tabA f) 127)).rowIs w.heap.size 127 201 (iv f) :=
  ⟨tabA f, heap_alloc_new w _, tabA_size f, fun _i hi => tabA_get f hi⟩

section
variable {ops : Array Oper} {rest : List Oper} {op : Oper} {a : Act} {Q : Exit → Act → World → Prop}
theorem wpList_load_arr {W : World} {g : Nat} {f : Nat → Int} (hgd : op.guard = none) (x : Operand) (ho : op.op = .load 127 x) (hx : a.eval x = .pointer (some ⟨g, 0, none⟩)) (hrow : W.rowIs g 127 201 (iv f))
    (h : wpList Tryz.prog ops Q rest (a.put op.dst (arrV f)) W) : wpList Tryz.prog ops Q (op :: rest) a W := by
  obtain ⟨c, hc, hs, hi⟩ := hrow
  obtain rfl := tabA_of hs hi
  refine wpList_plain hgd fun K hK => ?_
  unfold Oper.wp execOp
  have hl := run_loadVar_row (P := Tryz.prog) W g 127 127 (tabA f) (0, 0) _ hc Tryz.underlying127 rfl (by rw [tabA_size]; exact Tryz.sizeArr)
  simp only [ho, hx, Instr.loadAt, Instr.sureAddr, Sem.run_bind, Sem.run_pure, Result.andThen_ok, hl]
  exact hK _ _ h
theorem wpList_store_arr {W : World} {g : Nat} {f f0 : Nat → Int} (hgd : op.guard = none) (x y : Operand) (ho : op.op = .store 127 x y) (hx : a.eval x = .pointer (some ⟨g, 0, none⟩)) (hy : a.eval y = arrV f) (hrow : W.rowIs g 127 201 (iv f0))
    (h : ∀ W', W'.rowIs g 127 201 (iv f) → W.grownBy W' (some g) → wpList Tryz.prog ops Q rest (a.put op.dst undef) W') : wpList Tryz.prog ops Q (op :: rest) a W := by
  obtain ⟨c, hc, hs, hi⟩ := hrow
  obtain rfl := tabA_of hs hi
  refine wpList_plain hgd fun K hK => ?_
  unfold Oper.wp execOp
  have hl := run_storeVar_row (P := Tryz.prog) W g 127 127 (tabA f0) (tabA f) hc (by rw [tabA_size]; exact Tryz.sizeArr) (by rw [tabA_size, tabA_size]) (tabA_one f)
  unfold arrV at hy
  simp only [ho, hx, hy, Instr.storeAt, Instr.sureAddr, Sem.run_bind, Sem.run_pure, Result.andThen_ok, hl]
  refine hK _ _ (h _ ⟨tabA f, ?_, tabA_size f, fun i hi => tabA_get f hi⟩ ?_)
  · have hg := (Array.getElem?_eq_some_iff.1 hc).1
    simp only [World.setRow, Array.getElem?_modify]
    simp [hc]
  · refine ⟨rfl, rfl, rfl, by simp [World.setRow], fun k hk hne => ?_⟩
    simp only [World.setRow, Array.getElem?_modify]
    rw [if_neg (fun e => hne (by rw [e]))]
end
theorem index_arr (f : Nat → Int) (x : Int) (w : World) (h0 : 0 ≤ x) (h1 : x < 201) : (Instr.index 127 (arrV f) (.int .i64 x)).run Tryz.prog w = .ok (.int .i64 (f x.toNat)) w := by
  have hx : x.toNat < 201 := by omega
  have hg := tabA_get f hx
  have hp := run_part_plain (P := Tryz.prog) (w := w) (e := 3) (by kernel_rfl) hg
  have hs : (sizeOf 3).run Tryz.prog w = .ok 1 w := by
    cases hq : Tryz.prog.info? 3 with
    | none => have := Tryz.sizeInt1; rw [hq] at this; cases this
    | some i =>
      have := Tryz.sizeInt1
      rw [hq] at this
      simp at this
      simp [sizeOf, typeInfo, hq, this]
  simp [Instr.index, arrV, asIntOf, run_underlying Tryz.underlying127, h0, h1, hs, hp, iv]
end Go.Proofs.YthplgldclilccaaGreat

namespace Go.Proofs.YthplgldclilccaaGreat
open Go.RowKit

theorem Pows.ext' {S : Nat → Prop} {w W : World} {v : Value} {zs : Mono} (h : Pows S w v zs) (hx : Ext w W) (hS : ∀ k, S k → k < w.heap.size) : Pows S W v zs := h.to (Kept.ext hx hS) (fun _ h => h)
/-- the cells of a power -/
theorem Pows.cellAt {S : Nat → Prop} {w : World} {m : Mono} {a : Option Addr} {n cap k : Nat} {x : Int × Int} (h : Pows S w (.slice a n cap) m) (hx : m[k]? = some x) :
    ∃ b off, a = some ⟨b, off, none⟩ ∧ n = m.length ∧ n ≤ cap ∧ cap ≤ 9223372036854775807 ∧ S b ∧
      ((-9223372036854775808 ≤ x.1 ∧ x.1 ≤ 9223372036854775807) ∧ -9223372036854775808 ≤ x.2 ∧ x.2 ≤ 9223372036854775807) ∧
      w.cell? ⟨b, off + k * 2, none⟩ = some (.int .i64 x.1) ∧ w.cell? ⟨b, off + k * 2 + 1, none⟩ = some (.int .i64 x.2) := by
  obtain ⟨b, off, ⟨a', cap', h1, h2, h3, h4, h5⟩, hc⟩ := h
  obtain ⟨rfl, rfl, rfl⟩ : a = a' ∧ n = m.length ∧ cap = cap' := by simpa using h1
  have hp : 0 < m.length := by have := lt_of_some hx; omega
  exact ⟨b, off, h4 hp, rfl, h2, h3, h5 hp, (hc k x hx).1, (hc k x hx).2.1, (hc k x hx).2.2⟩

/-- the variable before the k-th power -/
def lastV (m : Mono) : Nat → Int
  | 0 => 0
  | k + 1 => ((m[k]?).map (·.1)).getD 0

set_option maxRecDepth 100000 in
set_option maxHeartbeats 2000000 in
theorem rmono_may {S : Nat → Prop} (v : Value) (m : Mono) (w : World) (h : Pows S w v m) (hS : ∀ k, S k → k < w.heap.size) :
    Calls Tryz.prog 86 #[v] w fun e w' => e = .returned (.bool (mayM m)) ∧ Ext w w' := by
  have hl := h.len_le
  have H := hid h
  obtain ⟨a, cap, rfl⟩ := h.form
  clear h
  go_enter Tryz.func86, Tryz.ntmps86
  go_wp2
  go_loopw [3] (fun i wr => ∃ k : Nat, k ≤ m.length ∧ i = .int .i64 k ∧ Ext w wr ∧ mayM m = mayTail (lastV m k) (m.drop k) ∧ 0 ≤ lastV m k) (fun i _ => m.length - (intOf i).toNat)
  case atStart => exact ⟨0, Nat.zero_le _, rfl, Ext.refl _, rfl, by simp [lastV]⟩
  case round =>
    obtain ⟨k, hk, rfl, hx, hm, hl0⟩ := hrel
    by_cases hlt : k < m.length
    · obtain ⟨t, ht⟩ := some_of_lt hlt
      have hT := drop_at ht
      rw [hT, mayTail] at hm
      have hl1 : lastV m (k + 1) = t.1 := by simp [lastV, ht]
      obtain ⟨b, off, rfl, -, hn1, hm1, hSb, ⟨hb1, hb2⟩, h1, h2⟩ := (H.out.ext' hx hS).cellAt ht
      have HM := hid hm
      have HX := hid hx
      have HL1 := hid hl1
      obtain ⟨x, z⟩ := t
      simp only at h1 h2 hb1 hb2 HM HL1
      clear hm hT hl1
      by_cases hbad : x < 1 ∨ 200 < x ∨ z < 1 ∨ 10000 < z
      · have hf : Hid (mayM m = false) := hid (by
          rw [HM.out]
          have : ¬ (lastV m k < x ∧ x ≤ 200 ∧ 1 ≤ z ∧ z ≤ 10000) := by omega
          simp [this])
        clear hx ht hl0
        rcases hbad with g | g | g | g <;> go_wp2
        all_goals
          go_ret
          exact ⟨by rw [hf.out]; rfl, HX.out⟩
      · have g1 : 1 ≤ x := by omega
        have g2 : x ≤ 200 := by omega
        have g3 : 1 ≤ z := by omega
        have g4 : z ≤ 10000 := by omega
        clear hbad ht hl0
        cases k with
        | zero =>
          simp only [Nat.zero_mul, Nat.add_zero] at h1 h2
          have hf : Hid (mayM m = mayTail (lastV m (0 + 1)) (m.drop (0 + 1))) := hid (by
            rw [HM.out, HL1.out]
            have : lastV m 0 < x ∧ x ≤ 200 ∧ 1 ≤ z ∧ z ≤ 10000 := ⟨by show (0 : Int) < x; omega, g2, g3, g4⟩
            simp [this])
          have hl2 : Hid (0 ≤ lastV m (0 + 1)) := hid (by rw [HL1.out]; omega)
          clear hx
          go_wp2
          go_quiet (fail)
          go_wp2
          go_roundw
          case rel => exact ⟨0 + 1, by omega, by go_num, HX.out.drewN _, hf.out, hl2.out⟩
          case measure => simp only [intOf]; omega
        | succ q =>
          obtain ⟨y, hy⟩ := some_of_lt (show q < m.length by omega)
          obtain ⟨b', off', hbb, -, -, -, -, ⟨hc1, hc2⟩, h3, h4⟩ := (H.out.ext' hx hS).cellAt hy
          obtain ⟨rfl, rfl⟩ : b = b' ∧ off = off' := by simpa using hbb
          have hl3 : lastV m (q + 1) = y.1 := by simp [lastV, hy]
          have HL3 := hid hl3
          obtain ⟨u, t⟩ := y
          simp only at h3 h4 hc1 hc2 HL3
          have hq1 : ((q : Nat) : Int) + 1 - 1 = (q : Int) := by omega
          clear hy hbb hl3 hx
          by_cases hux : u < x
          · have hf : Hid (mayM m = mayTail (lastV m (q + 1 + 1)) (m.drop (q + 1 + 1))) := hid (by
              rw [HM.out, HL1.out]
              have : lastV m (q + 1) < x ∧ x ≤ 200 ∧ 1 ≤ z ∧ z ≤ 10000 := ⟨by rw [HL3.out]; exact hux, g2, g3, g4⟩
              simp [this])
            have hl2 : Hid (0 ≤ lastV m (q + 1 + 1)) := hid (by rw [HL1.out]; omega)
            have hd : decide (x ≤ u) = false := decide_eq_false (by omega)
            go_wp2
            go_quiet (fail)
            go_wp2
            go_roundw
            case rel => exact ⟨q + 1 + 1, by omega, by go_num, HX.out.drewN _, hf.out, hl2.out⟩
            case measure => simp only [intOf]; omega
          · have hf : Hid (mayM m = false) := hid (by
              rw [HM.out]
              have : ¬ (lastV m (q + 1) < x ∧ x ≤ 200 ∧ 1 ≤ z ∧ z ≤ 10000) := by rw [HL3.out]; omega
              simp [this])
            have hd : decide (x ≤ u) = true := decide_eq_true (by omega)
            go_wp2
            go_quiet (fail)
            go_wp2
            all_goals
              go_ret
              exact ⟨by rw [hf.out]; rfl, HX.out.drewN _⟩
    · obtain rfl : k = m.length := by omega
      have HX := hid hx
      have hf : Hid (mayM m = true) := hid (by rw [hm, List.drop_length]; rfl)
      clear hx hm hl0
      go_wp2
      all_goals
        go_ret
        exact ⟨by rw [hf.out]; rfl, HX.out⟩
end Go.Proofs.YthplgldclilccaaGreat

namespace Go.Proofs.YthplgldclilccaaGreat
open Go.RowKit

/-- all exponents; those of 1, if the monomial may not be -/
def exF (m : Mono) : Nat → Int := fun v => ex (plainM m) v

theorem load_var {W : World} {g : Nat} {f : Nat → Int} (hrow : W.rowIs g 127 201 (iv f)) : (loadVar 127 ⟨g, 0, none⟩).run Tryz.prog W = .ok (arrV f) W := by
  obtain ⟨c, hc, hs, hi⟩ := hrow
  obtain rfl := tabA_of hs hi
  exact run_loadVar_row (P := Tryz.prog) W g 127 127 (tabA f) (0, 0) _ hc Tryz.underlying127 rfl (by rw [tabA_size]; exact Tryz.sizeArr)
theorem row_le {n k : Nat} (h : some n = some k) : n ≤ k := by
  cases h
  exact Nat.le_refl _
theorem results_cell {P : Program} {fn : Func} {tmps : Array Value} {t T g : Nat} {v : Value} {W : World} (hr : fn.results = #[.cell t T]) (ht : tmps.getD t undef = .pointer (some ⟨g, 0, none⟩)) (hl : (loadVar T ⟨g, 0, none⟩).run P W = .ok v W) : (results fn tmps).run P W = .ok v W := by
  have ht' : tmps[t]?.getD undef = .pointer (some ⟨g, 0, none⟩) := by rw [← ht]; simp
  simp [results, hr, ht', asAddr, hl]
theorem row_grown {w W : World} {g : Nat} {f : Nat → Value} {T : TypeId} {n : Nat} {row : Option Nat} (h : w.rowIs g T n f) (hg : w.grownBy W row) (hne : some g ≠ row) : W.rowIs g T n f := by
  obtain ⟨c, hc, hs, hi⟩ := h
  exact ⟨c, (hg.block g (Array.getElem?_eq_some_iff.1 hc).1 hne).trans hc, hs, hi⟩
theorem row_ext {w W : World} {g : Nat} {f : Nat → Value} {T : TypeId} {n : Nat} (h : w.rowIs g T n f) (hx : Ext w W) : W.rowIs g T n f := by
  obtain ⟨c, hc, hs, hi⟩ := h
  exact ⟨c, (hx.block g (Array.getElem?_eq_some_iff.1 hc).1).trans hc, hs, hi⟩
theorem row_far {w : World} {g : Nat} {f : Nat → Value} {T : TypeId} {n : Nat} {a : Addr} (h : w.rowIs g T n f) (hne : g ≠ a.block) (u : Value) : (w.setCell a u).rowIs g T n f := by
  obtain ⟨c, hc, hs, hi⟩ := h
  exact ⟨c, (Below.heap_setCell w a u g hne).trans hc, hs, hi⟩

theorem World.rowIs.drewN' {w : World} {g n : Nat} {T : TypeId} {f : Nat → Value} (h : w.rowIs g T n f) : w.drew.rowIs g T n f := h

theorem ex_snoc {l : Mono} {x : Int × Int} {v : Int} (h : ∀ y ∈ l, y.1 ≠ x.1) : ex (l ++ [x]) v = if x.1 = v then x.2 else ex l v := by
  induction l with
  | nil => rfl
  | cons y r ih =>
    have ih := ih (fun z hz => h z (by simp [hz]))
    simp only [List.cons_append, ex, ih]
    by_cases hv : x.1 = v
    · have : ¬ y.1 = v := fun e => h y (by simp) (e.trans hv.symm)
      simp [this, hv]
    · rw [if_neg hv, if_neg hv]
theorem mayTail_lt {last : Int} {m : Mono} (h : mayTail last m = true) : ∀ y ∈ m, last < y.1 := by
  induction m generalizing last with
  | nil => intro y hy; simp at hy
  | cons x r ih =>
    simp only [mayTail, Bool.and_eq_true, decide_eq_true_eq] at h
    intro y hy
    rcases List.mem_cons.1 hy with rfl | hy
    · exact h.1.1
    · have := ih h.2 y hy
      omega
theorem mayTail_nodup {last : Int} {m : Mono} {k : Nat} {x : Int × Int} (h : mayTail last m = true) (hx : m[k]? = some x) : (∀ y ∈ m.take k, y.1 ≠ x.1) ∧ 1 ≤ x.2 ∧ x.2 ≤ 10000 ∧ last < x.1 ∧ x.1 ≤ 200 := by
  induction m generalizing last k with
  | nil => simp at hx
  | cons y r ih =>
    have h0 := mayTail_lt h
    simp only [mayTail, Bool.and_eq_true, decide_eq_true_eq] at h
    cases k with
    | zero =>
      obtain rfl : y = x := by simpa using hx
      refine ⟨fun z hz => by simp at hz, ?_⟩
      omega
    | succ k =>
      have hx' : r[k]? = some x := by simpa using hx
      obtain ⟨h1, h2, h3, h4, h5⟩ := ih h.2 hx'
      refine ⟨fun z hz => ?_, h2, h3, by omega, h5⟩
      rw [List.take_succ_cons] at hz
      rcases List.mem_cons.1 hz with rfl | hz
      · omega
      · exact h1 z hz
theorem ex_take {m : Mono} {k : Nat} {x : Int × Int} (h : mayM m = true) (hx : m[k]? = some x) (v : Int) : ex (m.take (k + 1)) v = if x.1 = v then x.2 else ex (m.take k) v := by
  rw [List.take_add_one, hx]
  exact ex_snoc (mayTail_nodup h hx).1
theorem plainM_yes {m : Mono} (h : mayM m = true) : plainM m = m := by simp [plainM, h]
theorem plainM_no {m : Mono} (h : mayM m = false) : plainM m = [] := by simp [plainM, h]

set_option maxRecDepth 100000 in
set_option maxHeartbeats 4000000 in
theorem rmono_exps {S : Nat → Prop} (v : Value) (m : Mono) (w : World) (h : Pows S w v m) (hS : ∀ k, S k → k < w.heap.size) :
    Calls Tryz.prog 103 #[v] w fun e w' => e = .returned (arrV (exF m)) ∧ Ext w w' := by
  have hz := (zero_of_info Tryz.infoArr).1
  have hcs : (Value.agg (tabA fun _ => 0)).cells = tabA fun _ => 0 := rfl
  have hnot : ∀ (x : Bool) (w : World), (Op.unary .not (.bool x)).run Tryz.prog w = .ok (.bool (!x)) w := fun _ _ => rfl
  have hl := h.len_le
  have H := hid h
  obtain ⟨a, cap, rfl⟩ := h.form
  clear h
  have HK := hid (Ext.alloc (Ext.alloc (Ext.refl w) (.cells (tabA fun _ => 0) 127)) (.cells (tabA fun _ => 0) 127))
  have HR1 := hid (row_ext (row_new (fun _ => 0) w) (Ext.alloc (Ext.refl _) (.cells (tabA fun _ => 0) 127)))
  have hr2 := row_new (fun _ => 0) (w.alloc (.cells (tabA fun _ => 0) 127))
  rw [size_alloc] at hr2
  have HR2 := hid hr2
  have HM := hid (rmono_may _ m _ (H.out.ext' HK.out hS) (lt_ext hS HK.out))
  clear hr2
  go_enter Tryz.func103, Tryz.ntmps103
  go_wp2_with fail
  refine HM.out.mono ?_
  rintro e w1 ⟨rfl, hx1⟩
  have HX1 := hid hx1
  have HQ1 := hid (row_ext HR1.out hx1)
  have HQ2 := hid (row_ext HR2.out hx1)
  clear hx1
  cases hm : mayM m with
  | false =>
    have HF : Hid (exF m = fun _ => 0) := hid (by funext v; unfold exF; rw [plainM_no hm]; rfl)
    clear hm
    go_wp2_with (first
      | (refine wpList_load_arr rfl (.tmp 3) rfl rfl HQ2.out ?_)
      | (refine wpList_store_arr rfl (.tmp 2) (.tmp 8) rfl rfl rfl HQ1.out ?_; intro W hrow hg; have HROW := hid hrow; have HG := hid hg; clear hrow hg))
    have hld := load_var HROW.out
    refine bodyPost_ret (results_cell Tryz.results103 rfl hld) rfl ?_
    exact ⟨by rw [HF.out], ext_grown (HK.out.trans HX1.out) HG.out (fun k hk => row_le hk)⟩
  | true =>
    have HMM := hid hm
    clear hm
    obtain ⟨wo, hwo⟩ : ∃ wo : World, wo = w1 := ⟨_, rfl⟩
    subst hwo
    go_wp2
    go_loopw [4] (fun i wr => ∃ k : Nat, k ≤ m.length ∧ i = .int .i64 k ∧ Hid (wr.rowIs (w.heap.size + 1) 127 201 (iv (fun v => ex (m.take k) v))) ∧ Hid (wr.rowIs w.heap.size 127 201 (iv fun _ => 0)) ∧ Ext w wr) (fun i _ => m.length - (intOf i).toNat)
    case atStart => exact ⟨0, Nat.zero_le _, rfl, HQ2, HQ1, HK.out.trans HX1.out⟩
    case round =>
      obtain ⟨k, hk, rfl, HA, HB, hx⟩ := hrel
      by_cases hlt : k < m.length
      · obtain ⟨t, ht⟩ := some_of_lt hlt
        obtain ⟨b, off, rfl, -, hn1, hm1, hSb, ⟨hb1, hb2⟩, h1, h2⟩ := (H.out.ext' hx hS).cellAt ht
        obtain ⟨_, g1, g2, g3, g4⟩ := mayTail_nodup HMM.out ht
        have HT := hid (fun v => ex_take HMM.out ht v)
        have HX := hid hx
        have hbs := hS b hSb
        obtain ⟨x, z⟩ := t
        simp only at h1 h2 hb1 hb2 g1 g2 g3 g4 HT
        obtain ⟨x, rfl⟩ := Int.eq_ofNat_of_zero_le (Int.le_of_lt g3)
        have hx201 : x < 201 := by omega
        have hcs := HA.out.cell (i := x) hx201
        have hfs := HA.out.frozen x
        unfold iv at hcs
        have hxI0 : (0 : Int) ≤ (x : Int) := by omega
        have hxI1 : (x : Int) < 201 := by omega
        clear hx ht
        go_wp2
        have S0 : wr.drew.cell? ⟨b, off + k * 2, none⟩ = some (.int .i64 (x : Nat)) ∧ wr.drew.cell? ⟨b, off + k * 2 + 1, none⟩ = some (.int .i64 z) := ⟨by simpa using h1, by simpa using h2⟩
        go_region_held3 (fun W => W.cell? ⟨b, off + k * 2, none⟩ = some (.int .i64 (x : Nat)) ∧ W.cell? ⟨b, off + k * 2 + 1, none⟩ = some (.int .i64 z)) (first | exact S0 | exact ⟨other S0.1 (ab (by omega)), other S0.2 (ab (by omega))⟩) (fail)
        go_wp2
        go_roundw
        case rel =>
          refine ⟨k + 1, by omega, by go_num, hid ?_, hid (row_far HB.out (by simp) _), (HX.out.drew).setCell (p := ⟨w.heap.size + 1, x, none⟩) (by simp) _⟩
          refine (World.rowIs.set (World.rowIs.drewN' HA.out) x (.int .i64 z)).congr (fun i hi => ?_)
          show (if i = x then Value.int .i64 z else Value.int .i64 (ex (m.take k) (i : Nat))) = Value.int .i64 (ex (m.take (k + 1)) (i : Nat))
          rw [HT.out]
          by_cases e : i = x
          · subst e
            simp
          · have : ¬ ((x : Int) = (i : Int)) := fun h => e (by omega)
            simp [e, this]
        case measure => simp only [intOf]; omega
      · obtain rfl : k = m.length := by omega
        have HX := hid hx
        have HF : Hid ((fun v : Nat => ex (m.take m.length) v) = exF m) := hid (by funext v; unfold exF; rw [plainM_yes HMM.out, List.take_length])
        have hA := HA.out
        rw [HF.out] at hA
        have HA2 := hid hA
        clear hx hA
        go_wp2_with (first
          | (refine wpList_load_arr rfl (.tmp 3) rfl rfl HA2.out ?_)
          | (refine wpList_store_arr rfl (.tmp 2) (.tmp 26) rfl rfl rfl HB.out ?_; intro W hrow hg; have HROW := hid hrow; have HG := hid hg; clear hrow hg))
        have hld := load_var HROW.out
        refine bodyPost_ret (results_cell Tryz.results103 rfl hld) rfl ?_
        exact ⟨rfl, ext_grown HX.out HG.out (fun k hk => row_le hk)⟩
end Go.Proofs.YthplgldclilccaaGreat

namespace Go.Proofs.YthplgldclilccaaGreat
open Go.RowKit

theorem plainM_may (m : Mono) : mayM (plainM m) = true := by
  unfold plainM
  split
  · assumption
  · rfl
/-- how the document orders two monomials -/
def rcmp (a b : Mono) : Int := cmpE (ex (plainM a)) (ex (plainM b)) 200
theorem rcmp_eq {a b : Mono} (ha : mayM a = true) (hb : mayM b = true) : rcmp a b = compareM a b := by
  unfold rcmp
  rw [plainM_yes ha, plainM_yes hb, compareM_eq ha hb]

set_option maxRecDepth 100000 in
set_option maxHeartbeats 4000000 in
theorem rmono_compare {S : Nat → Prop} (va vb : Value) (a b : Mono) (w : World) (ha : Pows S w va a) (hb : Pows S w vb b) (hS : ∀ k, S k → k < w.heap.size) :
    Calls Tryz.prog 87 #[va, vb] w fun e w' => e = .returned (.int .i64 (rcmp a b)) ∧ Ext w w' := by
  have hz := (zero_of_info Tryz.infoArr).1
  have hcs : (Value.agg (tabA fun _ => 0)).cells = tabA fun _ => 0 := rfl
  have HA := hid ha
  have HB := hid hb
  obtain ⟨aa, ca, rfl⟩ := ha.form
  obtain ⟨ab1, cb, rfl⟩ := hb.form
  clear ha hb
  go_enter Tryz.func87, Tryz.ntmps87
  go_wp2_with fail
  refine (rmono_exps _ a w HA.out hS).mono ?_
  rintro e w1 ⟨rfl, hx1⟩
  have HX1 := hid hx1
  clear hx1
  go_wp2_with (refine wpList_store_arr rfl (.tmp 5) (.tmp 9) rfl rfl rfl (row_new (fun _ => 0) w1) ?_; intro w2 hrow hg; have HROW := hid hrow; have HG := hid hg; clear hrow hg)
  have HX2 : Hid (Ext w w2) := hid (ext_grown (HX1.out.alloc _) HG.out (fun k hk => Nat.le_trans HX1.out.size (row_le hk)))
  refine (rmono_exps _ b w2 (HB.out.ext' HX2.out hS) (lt_ext hS HX2.out)).mono ?_
  rintro e w3 ⟨rfl, hx3⟩
  have HX3 := hid (HX2.out.trans hx3)
  have hsz : w1.heap.size < w2.heap.size := by
    have := HG.out.size
    rw [size_alloc] at this
    omega
  have HSZ : Hid (w1.heap.size < w3.heap.size) := hid (Nat.lt_of_lt_of_le hsz hx3.size)
  have HROW3 := hid (row_ext HROW.out hx3)
  clear hx3 hsz
  go_wp2_with (refine wpList_store_arr rfl (.tmp 6) (.tmp 11) rfl rfl rfl (row_new (fun _ => 0) w3) ?_; intro w4 hrow hg; have HROWB := hid hrow; have HG2 := hid hg; clear hrow hg)
  have HX4 : Hid (Ext w w4) := hid (ext_grown (HX3.out.alloc _) HG2.out (fun k hk => Nat.le_trans HX3.out.size (row_le hk)))
  have HROWA : Hid (w4.rowIs w1.heap.size 127 201 (iv (exF a))) := hid (row_grown (row_ext HROW3.out (Ext.alloc (Ext.refl _) _)) HG2.out (fun e => by
    have := HSZ.out
    have h1 : w1.heap.size = w3.heap.size := by simpa using e
    omega))
  obtain ⟨ga, hga⟩ : ∃ g, g = w1.heap.size := ⟨_, rfl⟩
  obtain ⟨gb, hgb⟩ : ∃ g, g = w3.heap.size := ⟨_, rfl⟩
  rw [← hga] at HROWA ⊢
  rw [← hgb] at HROWB ⊢
  clear hga hgb
  go_loopw [7] (fun v wr => ∃ k : Nat, k ≤ 200 ∧ v = .int .i64 k ∧ Ext w4 wr ∧ rcmp a b = cmpE (ex (plainM a)) (ex (plainM b)) k) (fun v _ => (intOf v).toNat)
  case atStart => exact ⟨200, by omega, rfl, Ext.refl _, rfl⟩
  case round =>
    obtain ⟨k, hk, rfl, hx, hc⟩ := hrel
    have HX := hid hx
    by_cases h0 : 1 ≤ k
    · have hk201 : k < 201 := by omega
      have hca := (row_ext HROWA.out hx).cell (i := k) hk201
      have hcb := (row_ext HROWB.out hx).cell (i := k) hk201
      unfold iv exF at hca hcb
      obtain ⟨q, hq⟩ : ∃ q, k = q + 1 := ⟨k - 1, by omega⟩
      have hst : cmpE (ex (plainM a)) (ex (plainM b)) k = if ex (plainM a) (k : Nat) = ex (plainM b) (k : Nat) then cmpE (ex (plainM a)) (ex (plainM b)) q else cmpI (ex (plainM a) (k : Nat)) (ex (plainM b) (k : Nat)) := by
        rw [hq]; rfl
      rw [hst] at hc
      have HC := hid hc
      have HQ := hid hq
      clear hx hc hst hq
      generalize ex (plainM a) (k : Nat) = p at *
      generalize ex (plainM b) (k : Nat) = t at *
      have hkI0 : (0 : Int) ≤ (k : Int) := by omega
      have hkI1 : (k : Int) < 201 := by omega
      rcases (show p < t ∨ t < p ∨ p = t by omega) with hlt | hlt | heq
      · have HF : Hid (rcmp a b = -1) := hid (by rw [HC.out, if_neg (by omega), cmpI_mone]; exact hlt)
        go_wp2
        go_quiet (fail)
        go_wp2
        all_goals
          go_ret
          exact ⟨by rw [HF.out]; rfl, HX4.out.trans (HX.out.drewN _)⟩
      · have HF : Hid (rcmp a b = 1) := hid (by rw [HC.out, if_neg (by omega), cmpI_one]; exact hlt)
        have hd : decide (p < t) = false := decide_eq_false (by omega)
        go_wp2
        go_quiet (fail)
        go_wp2
        go_quiet (fail)
        go_wp2
        all_goals
          go_ret
          exact ⟨by rw [HF.out]; rfl, HX4.out.trans ((HX.out.drewN _).drewN _)⟩
      · subst heq
        have HF : Hid (rcmp a b = cmpE (ex (plainM a)) (ex (plainM b)) q) := hid (by rw [HC.out, if_pos rfl])
        go_wp2
        go_quiet (fail)
        go_wp2
        go_quiet (fail)
        go_wp2
        go_roundw
        case rel => exact ⟨q, by have := HQ.out; omega, congrArg (Value.int .i64) (by have := HQ.out; omega), HX.out.drewN _, HF.out⟩
        case measure => simp only [intOf]; omega
    · obtain rfl : k = 0 := by omega
      have HF : Hid (rcmp a b = 0) := hid (by rw [hc]; rfl)
      clear hx hc
      go_wp2
      all_goals
        go_ret
        exact ⟨by rw [HF.out]; rfl, HX4.out.trans HX.out⟩
end Go.Proofs.YthplgldclilccaaGreat

namespace Go.Proofs.YthplgldclilccaaGreat
open Go.RowKit

theorem class_at {m : Mono} (hm : mayM m = true) {k : Nat} (h1 : 1 ≤ k) (hpos : 0 < ex m k) (habove : ∀ j : Nat, k < j → j ≤ 200 → ex m j = 0) : classM m = k := by
  have hne : m ≠ [] := fun e => by rw [e] at hpos; simp [ex] at hpos
  obtain ⟨g1, g2, g3⟩ := class_ge hm hne
  rcases Int.lt_trichotomy (classM m) (k : Int) with h | h | h
  · have := class_above hm h (by omega)
    omega
  · exact h
  · have := habove (classM m).toNat (by omega) (by omega)
    rw [Int.toNat_of_nonneg (by omega)] at this
    omega
theorem class_none {m : Mono} (hm : mayM m = true) (h : ∀ j : Nat, 0 < j → j ≤ 200 → ex m j = 0) : classM m = 0 := by
  by_cases hne : m = []
  · rw [hne]; rfl
  · obtain ⟨g1, g2, g3⟩ := class_ge hm hne
    have := h (classM m).toNat (by omega) (by omega)
    rw [Int.toNat_of_nonneg (by omega)] at this
    omega

set_option maxRecDepth 100000 in
set_option maxHeartbeats 4000000 in
theorem rmono_class {S : Nat → Prop} (va : Value) (a : Mono) (w : World) (ha : Pows S w va a) (hS : ∀ k, S k → k < w.heap.size) :
    Calls Tryz.prog 65 #[va] w fun e w' => e = .returned (.int .i64 (classM (plainM a))) ∧ Ext w w' := by
  have hz := (zero_of_info Tryz.infoArr).1
  have hcs : (Value.agg (tabA fun _ => 0)).cells = tabA fun _ => 0 := rfl
  have HA := hid ha
  obtain ⟨aa, ca, rfl⟩ := ha.form
  clear ha
  go_enter Tryz.func65, Tryz.ntmps65
  go_wp2_with fail
  refine (rmono_exps _ a w HA.out hS).mono ?_
  rintro e w1 ⟨rfl, hx1⟩
  have HX1 := hid hx1
  clear hx1
  go_wp2_with (refine wpList_store_arr rfl (.tmp 3) (.tmp 6) rfl rfl rfl (row_new (fun _ => 0) w1) ?_; intro w2 hrow hg; have HROW := hid hrow; have HG := hid hg; clear hrow hg)
  have HX2 : Hid (Ext w w2) := hid (ext_grown (HX1.out.alloc _) HG.out (fun k hk => Nat.le_trans HX1.out.size (row_le hk)))
  obtain ⟨ga, hga⟩ : ∃ g, g = w1.heap.size := ⟨_, rfl⟩
  rw [← hga] at HROW ⊢
  clear hga
  go_loopw [4] (fun v wr => ∃ k : Nat, k ≤ 200 ∧ v = .int .i64 k ∧ Ext w2 wr ∧ Hid (∀ j : Nat, k < j → j ≤ 200 → ex (plainM a) j = 0)) (fun v _ => (intOf v).toNat)
  case atStart => exact ⟨200, by omega, rfl, Ext.refl _, hid (fun j h1 h2 => by omega)⟩
  case round =>
    obtain ⟨k, hk, rfl, hx, HC⟩ := hrel
    have HX := hid hx
    by_cases h0 : 1 ≤ k
    · have hk201 : k < 201 := by omega
      have hca := (row_ext HROW.out hx).cell (i := k) hk201
      unfold iv exF at hca
      obtain ⟨p, hp⟩ : ∃ p, p = ex (plainM a) (k : Nat) := ⟨_, rfl⟩
      have hpr := ex_range (plainM_may a) (k : Nat)
      rw [← hp] at hca hpr
      obtain ⟨hp1, hp2⟩ := hpr
      have HP := hid hp
      have hkI0 : (0 : Int) ≤ (k : Int) := by omega
      have hkI1 : (k : Int) < 201 := by omega
      clear hx hp
      by_cases hpos : 0 < p
      · have HF : Hid (classM (plainM a) = k) := hid (class_at (plainM_may a) h0 (by rw [← HP.out]; exact hpos) HC.out)
        go_wp2
        all_goals
          go_ret
          exact ⟨by rw [HF.out]; rfl, HX2.out.trans HX.out⟩
      · go_wp2
        go_roundw
        case rel =>
          refine ⟨k - 1, by omega, congrArg (Value.int .i64) (by omega), HX.out, hid (fun j h1 h2 => ?_)⟩
          by_cases e : j = k
          · subst e
            have := HP.out
            omega
          · exact HC.out j (by omega) h2
        case measure => simp only [intOf]; omega
    · obtain rfl : k = 0 := by omega
      have HF : Hid (classM (plainM a) = 0) := hid (class_none (plainM_may a) HC.out)
      clear hx
      go_wp2
      all_goals
        go_ret
        exact ⟨by rw [HF.out]; rfl, HX2.out.trans HX.out⟩

theorem ex_out {m : Mono} (hm : mayM m = true) {x : Int} (h : x < 1 ∨ 200 < x) : ex m x = 0 := by
  rcases h with h | h
  · exact ex_le_last hm (by omega)
  · exact ex_above hm h

set_option maxRecDepth 100000 in
set_option maxHeartbeats 4000000 in
theorem rmono_degree {S : Nat → Prop} (va : Value) (a : Mono) (x : Int) (w : World) (ha : Pows S w va a) (hS : ∀ k, S k → k < w.heap.size) (hx : -9223372036854775808 ≤ x ∧ x ≤ 9223372036854775807) :
    Calls Tryz.prog 58 #[va, .int .i64 x] w fun e w' => e = .returned (.int .i64 (ex (plainM a) x)) ∧ Ext w w' := by
  have HA := hid ha
  obtain ⟨aa, ca, rfl⟩ := ha.form
  obtain ⟨hx1, hx2⟩ := hx
  clear ha
  by_cases hout : x < 1 ∨ 200 < x
  · have HF := hid (ex_out (plainM_may a) hout)
    rcases hout with h | h
    · go_enter Tryz.func58, Tryz.ntmps58
      go_wp2
      all_goals
        go_ret
        exact ⟨by rw [HF.out]; rfl, Ext.refl _⟩
    · go_enter Tryz.func58, Tryz.ntmps58
      go_wp2
      all_goals
        go_ret
        exact ⟨by rw [HF.out]; rfl, Ext.refl _⟩
  · have h1 : 1 ≤ x := by omega
    have h2 : x ≤ 200 := by omega
    have hidx := fun w => index_arr (exF a) x w (by omega) (by omega)
    have hv : exF a x.toNat = ex (plainM a) x := by
      unfold exF
      rw [Int.toNat_of_nonneg (by omega)]
    rw [hv] at hidx
    clear hout hv
    go_enter Tryz.func58, Tryz.ntmps58
    go_wp2_with fail
    refine (rmono_exps _ a w HA.out hS).mono ?_
    rintro e w1 ⟨rfl, hx1⟩
    have HX1 := hid hx1
    clear hx1
    go_wp2
    all_goals
      go_ret
      exact ⟨rfl, HX1.out⟩

/-- the monomial of exponents, of the variables up to k -/
def ofE (f : Nat → Int) : Nat → Mono
  | 0 => []
  | k + 1 => if 0 < f (k + 1) then ofE f k ++ [(((k + 1 : Nat) : Int), f (k + 1))] else ofE f k
theorem ofE_len (f : Nat → Int) (k : Nat) : (ofE f k).length ≤ k := by
  induction k with
  | zero => simp [ofE]
  | succ k ih =>
    simp only [ofE]
    split
    · simp only [List.length_append, List.length_cons, List.length_nil]; omega
    · omega
theorem ofE_bounds {f : Nat → Int} (h : ∀ j, 0 ≤ f j ∧ f j ≤ 1000000) (k : Nat) (hk : k ≤ 200) : inBounds (ofE f k) := by
  induction k with
  | zero => intro x hx; simp [ofE] at hx
  | succ k ih =>
    have ih := ih (by omega)
    simp only [ofE]
    split
    · intro x hx
      rcases List.mem_append.1 hx with hx | hx
      · exact ih x hx
      · obtain rfl := List.mem_singleton.1 hx
        have := h (k + 1)
        unfold inI64
        simp only
        omega
    · exact ih
theorem two_cell {u v : Value} (h : u.oneCell' = true) (k : v.oneCell' = true) : ∀ x ∈ (#[u, v] : Array Value).toList, x.oneCell' = true := by
  intro x hx
  simp at hx
  rcases hx with rfl | rfl <;> assumption

set_option maxRecDepth 100000 in
set_option maxHeartbeats 4000000 in
theorem rmono_of (f : Nat → Int) (w : World) (hf : ∀ j, 0 ≤ f j ∧ f j ≤ 1000000) :
    Calls Tryz.prog 104 #[arrV f] w fun e w' => ∃ v', e = .returned v' ∧ Pows (New w w') w' v' (ofE f 200) ∧ Ext w w' := by
  have HK := hid (Ext.alloc (Ext.refl w) (.cells (tabA f) 127))
  have HROW := hid (row_new f w)
  have HF := hid hf
  clear hf
  unfold arrV
  go_enter Tryz.func104, Tryz.ntmps104
  go_wp2
  go_loopw [3, 4] (fun o v wr => ∃ k : Nat, k ≤ 200 ∧ v = .int .i64 ((k : Int) + 1) ∧ Ext (w.alloc (.cells (tabA f) 127)) wr ∧ Hid (wr.ownsRow (w.heap.size + 1) 104 2 o (ofE f k).length (flatP (ofE f k)))) (fun _ v _ => (201 - intOf v).toNat)
  case atStart => exact ⟨0, by omega, rfl, Ext.refl _, hid (World.ownsRow_nil _ _ _ _)⟩
  case round =>
    obtain ⟨k, hk, rfl, hx, HW⟩ := hrel
    have HX := hid hx
    by_cases h0 : k < 200
    · obtain ⟨q, hq⟩ : ∃ q, q = k + 1 := ⟨_, rfl⟩
      have hqI : (k : Int) + 1 = (q : Int) := by omega
      have hq201 : q < 201 := by omega
      have hca := (row_ext HROW.out hx).cell (i := q) hq201
      unfold iv at hca
      obtain ⟨p, hp⟩ : ∃ p, p = f q := ⟨_, rfl⟩
      have hpr := HF.out q
      rw [← hp] at hca hpr
      obtain ⟨hp1, hp2⟩ := hpr
      have HP := hid hp
      have HQ := hid hq
      have hq1 : 1 ≤ q := by omega
      have hq2 : q ≤ 200 := by omega
      have hst : ofE f q = if 0 < p then ofE f k ++ [((q : Int), p)] else ofE f k := by rw [hq, hp, hq]; rfl
      have HST := hid hst
      have hol : (ofE f k).length ≤ 1000000000 := Nat.le_trans (ofE_len f k) (by omega)
      have hbs : w.heap.size + 1 ≤ wr.heap.size := by have := hx.size; rw [size_alloc] at this; exact this
      have HBS := hid hbs
      rw [hqI]
      clear hx hp hq hst hbs
      by_cases hpos : 0 < p
      · go_wp2_with (at_builtin; refine wpList_append_new _ rfl (.tmp 13) (.tmp 19) 74 rfl (w.heap.size + 1) 104 (.agg #[.int .i64 0, .int .i64 0]) 2 16 Tryz.underlying74 Tryz.infoPower rfl (by decide) _ (ofE f k).length (flatP (ofE f k)) rfl HW.out _ rfl (two_cell rfl rfl) rfl hol (by decide) HBS.out ?_; intro v1 w1 hown hg _; have HOW := hid hown; have HG := hid hg; clear hown hg)
        go_roundw
        case rel =>
          refine ⟨q, by omega, rfl, ext_grown HX.out HG.out (fun j hj => ?_), hid ?_⟩
          · have := (HW.out.lt j hj).1
            rw [size_alloc]
            exact this
          · rw [HST.out, if_pos hpos, flatP_append]
            have h1 := HOW.out
            simpa [flatP] using h1
        case measure => simp only [intOf]; omega
      · go_wp2
        go_roundw
        case rel => exact ⟨q, by omega, rfl, HX.out, hid (by rw [HST.out, if_neg hpos]; exact HW.out)⟩
        case measure => simp only [intOf]; omega
    · obtain rfl : k = 200 := by omega
      have hb := ofE_bounds HF.out 200 (Nat.le_refl _)
      have HP := hid (own_pows HW.out hb)
      clear hx hb
      go_wp2
      all_goals
        go_ret
        refine ⟨_, rfl, HP.out.to (Kept.refl _ _) (fun j hj => ⟨by have := hj.1; omega, hj.2⟩), HK.out.trans HX.out⟩

theorem pow_ne {x y : Int × Int} (h : ¬ x = y) : ¬ x.1 = y.1 ∨ x.1 = y.1 ∧ ¬ x.2 = y.2 := by
  by_cases h1 : x.1 = y.1
  · exact .inr ⟨h1, fun h2 => h (Prod.ext h1 h2)⟩
  · exact .inl h1

set_option maxRecDepth 100000 in
set_option maxHeartbeats 2000000 in
theorem rmono_same {S : Nat → Prop} (va vb : Value) (xs ys : Mono) (w : World) (ha : Pows S w va xs) (hb : Pows S w vb ys) (hS : ∀ k, S k → k < w.heap.size) :
    Calls Tryz.prog 56 #[va, vb] w fun e w' => e = .returned (.bool (decide (xs = ys))) ∧ Ext w w' := by
  have HA := hid ha
  have HB := hid hb
  have hl1 := ha.len_le
  have hl2 := hb.len_le
  obtain ⟨aa, ca, rfl⟩ := ha.form
  obtain ⟨ab, cb, rfl⟩ := hb.form
  clear ha hb
  by_cases hne : xs.length = ys.length
  · have hq : ((xs.length : Int) != (ys.length : Int)) = false := by rw [bne_eq_false_iff_eq]; omega
    have HN := hid hne
    obtain ⟨L, hL⟩ : ∃ L, L = xs.length := ⟨_, rfl⟩
    have HL := hid hL
    rw [← hne, ← hL] at HB hl2 hq ⊢
    rw [← hL] at HA hl1
    clear hne hL
    go_enter Tryz.func56, Tryz.ntmps56
    go_wp2
    go_loopw [5] (fun i wr => ∃ k : Nat, k ≤ L ∧ i = .int .i64 k ∧ Ext w wr ∧ xs.take k = ys.take k) (fun i _ => L - (intOf i).toNat)
    case atStart => exact ⟨0, Nat.zero_le _, rfl, Ext.refl _, by simp⟩
    case round =>
      obtain ⟨k, hk, rfl, hx, ht⟩ := hrel
      by_cases hlt : k < L
      · obtain ⟨x, hx1⟩ := some_of_lt (show k < xs.length by have := HL.out; omega)
        obtain ⟨y, hy1⟩ := some_of_lt (show k < ys.length by have := HL.out; have := HN.out; omega)
        obtain ⟨b1, o1, rfl, -, hn1, hm1, -, -, hc1, hc2⟩ := (HA.out.ext' hx hS).cellAt hx1
        obtain ⟨b2, o2, rfl, -, hn2, hm2, -, -, hc3, hc4⟩ := (HB.out.ext' hx hS).cellAt hy1
        have HX := hid hx
        have HT := hid ht
        have HX1 := hid hx1
        have HY1 := hid hy1
        clear hx ht hx1 hy1
        by_cases hxy : x = y
        · subst hxy
          go_wp2
          go_quiet (fail)
          go_wp2
          go_roundw
          case rel => exact ⟨k + 1, by omega, by go_num, HX.out.drewN _, by rw [List.take_add_one, List.take_add_one, HT.out, HX1.out, HY1.out]⟩
          case measure => simp only [intOf]; omega
        · have HF : Hid (decide (xs = ys) = false) := hid (decide_eq_false (fun e => hxy (by
            have := HX1.out
            rw [e, HY1.out] at this
            exact (Option.some.inj this).symm)))
          have hne2 := pow_ne hxy
          obtain ⟨x1, x2⟩ := x
          obtain ⟨y1, y2⟩ := y
          simp only at hc1 hc2 hc3 hc4 hne2
          clear hxy
          rcases hne2 with h | ⟨h, h2⟩
          · go_wp2
            go_quiet (fail)
            go_wp2
            all_goals
              go_ret
              exact ⟨by rw [HF.out]; rfl, HX.out.drewN _⟩
          · subst h
            go_wp2
            go_quiet (fail)
            go_wp2
            all_goals
              go_ret
              exact ⟨by rw [HF.out]; rfl, HX.out.drewN _⟩
      · obtain rfl : k = L := by omega
        have HX := hid hx
        have HF : Hid (decide (xs = ys) = true) := hid (decide_eq_true (by
          rw [HL.out, List.take_length, HN.out, List.take_length] at ht
          exact ht))
        clear hx ht
        go_wp2
        all_goals
          go_ret
          exact ⟨by rw [HF.out]; rfl, HX.out⟩
  · have hq : ((xs.length : Int) != (ys.length : Int)) = true := by rw [bne_iff_ne]; omega
    have HF : Hid (decide (xs = ys) = false) := hid (decide_eq_false (fun e => hne (by rw [e])))
    clear hne
    go_enter Tryz.func56, Tryz.ntmps56
    go_wp2
    all_goals
      go_ret
      exact ⟨by rw [HF.out]; rfl, Ext.refl _⟩
end Go.Proofs.YthplgldclilccaaGreat

namespace Go.Proofs.YthplgldclilccaaGreat
open Go.RowKit

/-- the exponents of a product -/
def sumF (a b : Mono) : Nat → Int := fun v => ex a (v : Nat) + ex b (v : Nat)
/-- is an exponent too great, of the variables up to k? -/
def overF (f : Nat → Int) : Nat → Bool
  | 0 => false
  | k + 1 => overF f k || decide (10000 < f (k + 1))
/-- the document's product; nothing, if an exponent is too great -/
def rtimes (a b : Mono) : Option Mono := if overF (sumF a b) 200 then none else some (ofE (sumF a b) 200)

theorem overF_mono {f : Nat → Int} {k n : Nat} (h : overF f k = true) (hk : k ≤ n) : overF f n = true := by
  induction n with
  | zero =>
    obtain rfl : k = 0 := by omega
    exact h
  | succ n ih =>
    by_cases e : k = n + 1
    · subst e; exact h
    · simp only [overF, ih (by omega), Bool.true_or]
theorem ofE_congr {f g : Nat → Int} {n : Nat} (h : ∀ k, 1 ≤ k → k ≤ n → f k = g k) : ofE f n = ofE g n := by
  induction n with
  | zero => rfl
  | succ n ih => simp only [ofE, h (n + 1) (by omega) (Nat.le_refl _), ih (fun k h1 h2 => h k h1 (by omega))]

/-- the rows of the product so far -/
def mixF (a b : Mono) (k : Nat) : Nat → Int := fun j => if 1 ≤ j ∧ j ≤ k then ex a (j : Nat) + ex b (j : Nat) else ex a (j : Nat)

theorem rtimes_none {a b : Mono} {k : Nat} (h : overF (sumF a b) k = true) (hk : k ≤ 200) : rtimes a b = none := by
  unfold rtimes
  rw [if_pos (overF_mono h hk)]
theorem rtimes_some {a b : Mono} (h : overF (sumF a b) 200 = false) : rtimes a b = some (ofE (mixF a b 200) 200) := by
  unfold rtimes
  rw [if_neg (by rw [h]; exact Bool.false_ne_true)]
  exact congrArg some (ofE_congr (fun k h1 h2 => by
    unfold sumF mixF
    rw [if_pos ⟨h1, h2⟩]))
/-- the error behind it -/
def rterr : Option Mono → Int
  | none => 8
  | some _ => 0
def rtval : Option Mono → Mono
  | none => []
  | some m => m
theorem overF_zero (f : Nat → Int) : overF f 0 = false := rfl
theorem overF_succ (a b : Mono) (k : Nat) : overF (sumF a b) (k + 1) = (overF (sumF a b) k || decide (10000 < ex a ((k + 1 : Nat) : Int) + ex b ((k + 1 : Nat) : Int))) := rfl
attribute [local irreducible] ofE overF rtimes

set_option maxRecDepth 100000 in
set_option maxHeartbeats 4000000 in
theorem rmono_times {S : Nat → Prop} (va vb : Value) (a b : Mono) (w : World) (ha : Pows S w va a) (hb : Pows S w vb b) (hS : ∀ k, S k → k < w.heap.size) (hma : mayM a = true) (hmb : mayM b = true) :
    Calls Tryz.prog 123 #[va, vb] w fun e w' => ∃ v', e = .returned (.tuple #[v', .int .i64 (rterr (rtimes a b))]) ∧ Pows (New w w') w' v' (rtval (rtimes a b)) ∧ Ext w w' := by
  have hz := (zero_of_info Tryz.infoArr).1
  have hcs : (Value.agg (tabA fun _ => 0)).cells = tabA fun _ => 0 := rfl
  have hnot : ∀ (x : Bool) (w : World), (Op.unary .not (.bool x)).run Tryz.prog w = .ok (.bool (!x)) w := fun _ _ => rfl
  have HA := hid ha
  have HB := hid hb
  obtain ⟨aa, ca, rfl⟩ := ha.form
  obtain ⟨ab1, cb, rfl⟩ := hb.form
  have HMA := hid hma
  have HMB := hid hmb
  have M1 := fun W (hW : Ext w W) => rmono_may (S := S) _ a W (HA.out.ext' hW hS) (lt_ext hS hW)
  rw [hma] at M1
  have M2 := fun W (hW : Ext w W) => rmono_may (S := S) _ b W (HB.out.ext' hW hS) (lt_ext hS hW)
  rw [hmb] at M2
  have EA : Hid (exF a = fun v => ex a (v : Nat)) := hid (by funext v; unfold exF; rw [plainM_yes hma])
  have EB : Hid (exF b = fun v => ex b (v : Nat)) := hid (by funext v; unfold exF; rw [plainM_yes hmb])
  have HM1 := hid M1
  have HM2 := hid M2
  obtain ⟨R, hR⟩ : ∃ R, R = rtimes a b := ⟨_, rfl⟩
  rw [← hR]
  have HR := hid hR
  clear ha hb hma hmb M1 M2 hR
  go_enter Tryz.func123, Tryz.ntmps123
  go_wp2_with fail
  refine (HM1.out w (Ext.refl _)).mono ?_
  rintro e w1 ⟨rfl, hx1⟩
  have HX1 := hid hx1
  clear hx1
  go_wp2_with fail
  refine (HM2.out w1 HX1.out).mono ?_
  rintro e w2 ⟨rfl, hx2⟩
  have HX2 := hid (HX1.out.trans hx2)
  clear hx2
  go_wp2_with fail
  refine (rmono_exps _ a w2 (HA.out.ext' HX2.out hS) (lt_ext hS HX2.out)).mono ?_
  rintro e w3 ⟨rfl, hx3⟩
  have HX3 := hid (HX2.out.trans hx3)
  clear hx3
  rw [EA.out]
  go_wp2_with (refine wpList_store_arr rfl (.tmp 6) (.tmp 18) rfl rfl rfl (row_new (fun _ => 0) w3) ?_; intro w4 hrow hg; have HROW := hid hrow; have HG := hid hg; clear hrow hg)
  have HX4 : Hid (Ext w w4) := hid (ext_grown (HX3.out.alloc _) HG.out (fun k hk => Nat.le_trans HX3.out.size (row_le hk)))
  refine (rmono_exps _ b w4 (HB.out.ext' HX4.out hS) (lt_ext hS HX4.out)).mono ?_
  rintro e w5 ⟨rfl, hx5⟩
  have HX5 := hid (HX4.out.trans hx5)
  have hsz : w3.heap.size < w4.heap.size := by
    have := HG.out.size
    rw [size_alloc] at this
    omega
  have HSZ : Hid (w3.heap.size < w5.heap.size) := hid (Nat.lt_of_lt_of_le hsz hx5.size)
  have HROW5 := hid (row_ext HROW.out hx5)
  clear hx5 hsz
  rw [EB.out]
  go_wp2_with (refine wpList_store_arr rfl (.tmp 7) (.tmp 20) rfl rfl rfl (row_new (fun _ => 0) w5) ?_; intro w6 hrow hg; have HROWB := hid hrow; have HG2 := hid hg; clear hrow hg)
  have HX6 : Hid (Ext w w6) := hid (ext_grown (HX5.out.alloc _) HG2.out (fun k hk => Nat.le_trans HX5.out.size (row_le hk)))
  have HROWA : Hid (w6.rowIs w3.heap.size 127 201 (iv (mixF a b 0))) := hid (by
    have h1 := row_grown (row_ext HROW5.out (Ext.alloc (Ext.refl _) _)) HG2.out (fun e => by
      have := HSZ.out
      have h1 : w3.heap.size = w5.heap.size := by simpa using e
      omega)
    have e : mixF a b 0 = fun v : Nat => ex a (v : Nat) := by
      funext j
      unfold mixF
      rw [if_neg (by omega)]
    rw [e]
    exact h1)
  obtain ⟨ga, hga⟩ : ∃ g, g = w3.heap.size := ⟨_, rfl⟩
  obtain ⟨gb, hgb⟩ : ∃ g, g = w5.heap.size := ⟨_, rfl⟩
  have hgab : ga ≠ gb := by
    rw [hga, hgb]
    have := HSZ.out
    omega
  have HGA : Hid (w.heap.size ≤ ga) := hid (by rw [hga]; exact HX3.out.size)
  rw [← hga] at HROWA ⊢
  rw [← hgb] at HROWB ⊢
  clear hga hgb
  go_loopw [8] (fun v wr => ∃ k : Nat, k ≤ 200 ∧ v = .int .i64 ((k : Int) + 1) ∧ Ext w wr ∧ Hid (wr.rowIs ga 127 201 (iv (mixF a b k))) ∧ Hid (wr.rowIs gb 127 201 (iv fun v => ex b (v : Nat))) ∧ Hid (overF (sumF a b) k = false)) (fun v _ => (201 - intOf v).toNat)
  case atStart => exact ⟨0, by omega, rfl, HX6.out, HROWA, HROWB, hid (overF_zero _)⟩
  case round =>
    obtain ⟨k, hk, rfl, hx, HP, HQ, HO⟩ := hrel
    have HX := hid hx
    by_cases h0 : k < 200
    · obtain ⟨q, hq⟩ : ∃ q, q = k + 1 := ⟨_, rfl⟩
      have hqI : (k : Int) + 1 = (q : Int) := by omega
      have hq201 : q < 201 := by omega
      have hca := HP.out.cell (i := q) hq201
      have hcb : wr.cell? ⟨gb, q, none⟩ = some (.int .i64 (ex b (q : Nat))) := HQ.out.cell (i := q) hq201
      have hfa := HP.out.frozen q
      have hm1 : mixF a b k q = ex a (q : Nat) := by unfold mixF; rw [if_neg (by omega)]
      unfold iv at hca
      rw [hm1] at hca
      obtain ⟨x, hxe⟩ : ∃ x, x = ex a (q : Nat) := ⟨_, rfl⟩
      obtain ⟨y, hye⟩ : ∃ y, y = ex b (q : Nat) := ⟨_, rfl⟩
      have hxr := ex_range HMA.out (q : Nat)
      have hyr := ex_range HMB.out (q : Nat)
      rw [← hxe] at hca hxr
      rw [← hye] at hcb hyr
      obtain ⟨hxr1, hxr2⟩ := hxr
      obtain ⟨hyr1, hyr2⟩ := hyr
      have hov : overF (sumF a b) q = (overF (sumF a b) k || decide (10000 < x + y)) := by rw [hq, hxe, hye, hq]; exact overF_succ a b k
      rw [HO.out, Bool.false_or] at hov
      have HOV := hid hov
      have HQE := hid hq
      have HXE := hid hxe
      have HYE := hid hye
      have hq1 : 1 ≤ q := by omega
      have hq2 : q ≤ 200 := by omega
      have hqI0 : (0 : Int) ≤ (q : Int) := by omega
      have hqI1 : (q : Int) < 201 := by omega
      rw [hqI]
      clear hx hq hm1 hxe hye hov
      go_wp2
      go_still_tail 9, (by kernel_rfl)
      change wpList _ _ _ _ _ wr.drew
      have hst := World.rowIs.set (World.rowIs.drewN' HP.out) q (.int .i64 (x + y))
      have hrowA : (wr.drew.setCell ⟨ga, q, none⟩ (.int .i64 (x + y))).rowIs ga 127 201 (iv (mixF a b q)) := hst.congr (fun i hi => by
        unfold iv mixF
        by_cases e : i = q
        · subst e
          rw [if_pos rfl, if_pos ⟨hq1, Nat.le_refl _⟩, ← HXE.out, ← HYE.out]
        · rw [if_neg e]
          have := HQE.out
          by_cases e2 : 1 ≤ i ∧ i ≤ k
          · rw [if_pos e2, if_pos (by omega)]
          · rw [if_neg e2, if_neg (by omega)])
      have HRA := hid hrowA
      have hca2 := hrowA.cell (i := q) hq201
      unfold iv mixF at hca2
      rw [if_pos ⟨hq1, Nat.le_refl _⟩, ← HXE.out, ← HYE.out] at hca2
      clear hst hrowA
      by_cases hbig : 10000 < x + y
      · have HRN : Hid (R = none) := hid (HR.out.trans (rtimes_none (by rw [HOV.out]; exact decide_eq_true hbig) hq2))
        go_wp2
        all_goals
          go_ret2
          rw [HRN.out]
          refine ⟨_, rfl, Pows.empty _ _ _, (HX.out.drew).setCell (p := ⟨ga, q, none⟩) HGA.out _⟩
      · go_wp2
        go_roundw
        case rel => exact ⟨q, by omega, rfl, (HX.out.drew).setCell (p := ⟨ga, q, none⟩) HGA.out _, HRA, hid (row_far (World.rowIs.drewN' HQ.out) (fun e => hgab e.symm) _), hid (by rw [HOV.out]; exact decide_eq_false hbig)⟩
        case measure => simp only [intOf]; omega
    · obtain rfl : k = 200 := by omega
      have HRS := hid (HR.out.trans (rtimes_some HO.out))
      have hof := rmono_of (mixF a b 200) wr (fun j => by
        have h1 := ex_range HMA.out (j : Nat)
        have h2 := ex_range HMB.out (j : Nat)
        unfold mixF
        split <;> omega)
      have HOF := hid hof
      clear hx hof
      go_wp2_with (refine wpList_load_arr rfl (.tmp 6) rfl rfl HP.out ?_)
      refine HOF.out.mono ?_
      rintro e w7 ⟨v7, rfl, hp, hx7⟩
      have HX7 := hid hx7
      have HP7 := hid hp
      clear hp hx7
      go_wp2
      all_goals
        go_ret2
        rw [HRS.out]
        exact ⟨_, rfl, HP7.out.to (Kept.refl _ _) (New.mono HX.out), HX.out.trans HX7.out⟩
end Go.Proofs.YthplgldclilccaaGreat
