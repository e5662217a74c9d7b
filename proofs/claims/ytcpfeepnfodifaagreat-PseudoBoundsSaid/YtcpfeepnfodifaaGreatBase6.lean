/- The merge in place of two neighbours, at terms. The stable sort in place, at terms: blocks of twenty, then merges. A slice of terms, copied, and sorted by falling monomials. Slices of terms put behind one another. Terms that are summed by their monomials: what is collected is the canonical list. Plain. Terms collected: sorted, and summed by their monomials. -/
import Derived.Deep.DeepCutAuto
import Derived.Test.YtcpfeepnfodifaaGreatBase5
namespace Go.Proofs.YtcpfeepnfodifaaGreat
open Go.RowKit Go.Sort

def symGood (a m e d lo hi : Nat) : Prop := (d < m ∧ lo + e = d + m ∧ hi = d) ∨ (m ≤ d ∧ lo = a ∧ hi = m)
section
variable {α : Type} {le : α → α → Bool}
theorem sym_split (hl : TotalLe le) {P A B T cur : List α} (hA : SortedL le A) (hB : SortedL le B) (hcur : cur = P ++ A ++ B ++ T) {a m e d s f lo hi : Nat} (ha : a = P.length) (hm : m = a + A.length) (he : e = m + B.length) (hd : d = (a + e) / 2)
    (hg : symGood a m e d lo hi) (hls : lo ≤ s) (hsh : s ≤ hi) (hf : f + s = d + m)
    (h1 : s = lo ∨ ∃ x z, cur[s - 1]? = some x ∧ cur[f]? = some z ∧ le x z = true) (h2 : s = hi ∨ ∃ x z, cur[s]? = some x ∧ cur[f - 1]? = some z ∧ le x z = false) :
    ∃ A1 A2 B1 B2, A = A1 ++ A2 ∧ B = B1 ++ B2 ∧ s = a + A1.length ∧ f = m + B1.length ∧ mergeL le A B = mergeL le A1 B1 ++ mergeL le A2 B2 := by
  have hsb : a ≤ s ∧ s ≤ m ∧ m ≤ f ∧ f ≤ e := by unfold symGood at hg; omega
  have atA : ∀ k, k < A.length → cur[a + k]? = A[k]? := fun k hk => by
    rw [hcur, List.append_assoc]
    exact mid_at ha hk
  have atB : ∀ k, k < B.length → cur[m + k]? = B[k]? := fun k hk => by
    rw [hcur]
    exact mid_at (by simp; omega) hk
  have hA1 : (A.take (s - a)).length = s - a := by rw [List.length_take]; omega
  have hB1 : (B.take (f - m)).length = f - m := by rw [List.length_take]; omega
  refine ⟨A.take (s - a), A.drop (s - a), B.take (f - m), B.drop (f - m), (List.take_append_drop _ _).symm, (List.take_append_drop _ _).symm, by omega, by omega, ?_⟩
  conv => lhs; rw [← List.take_append_drop (s - a) A, ← List.take_append_drop (f - m) B]
  refine mergeL_split _ _ _ _ ?_ ?_
  · intro x hx y hy
    obtain ⟨k, hk, hkx⟩ := take_mem_at hx
    obtain ⟨k', hk', hky⟩ := drop_mem_at hy
    have hkB := lt_of_some hky
    rcases h1 with h1 | ⟨x0, z0, g1, g2, g3⟩
    · unfold symGood at hg; omega
    · have e1 : A[s - a - 1]? = some x0 := by rw [← atA _ (by omega), ← g1]; congr 1; omega
      have e2 : B[f - m]? = some z0 := by rw [← atB _ (by omega), ← g2]; congr 1; omega
      have := cut_low' hl hA (x := z0) (t := s - a) (.inr ⟨x0, e1, g3⟩) x hx
      exact cut_high hl hB (x := x) (t := f - m) (.inr ⟨z0, e2, this⟩) y hy
  · intro y hy x hx
    obtain ⟨k, hk, hky⟩ := take_mem_at hy
    obtain ⟨k', hk', hkx⟩ := drop_mem_at hx
    have hkA := lt_of_some hkx
    rcases h2 with h2 | ⟨x0, z0, g1, g2, g3⟩
    · unfold symGood at hg; omega
    · have e1 : A[s - a]? = some x0 := by rw [← atA _ (by omega), ← g1]; congr 1; omega
      have e2 : B[f - m - 1]? = some z0 := by rw [← atB _ (by omega), ← g2]; congr 1; omega
      have := cut_low hl hB (x := x0) (t := f - m) (.inr ⟨z0, e2, g3⟩) y hy
      exact cut_high' hl hA (x := y) (t := s - a) (.inr ⟨x0, e1, this⟩) x hx
end

section
variable {α : Type} [Inhabited α] {tc : α → TCell} {w : World} {b o : Nat} {cf : α → α → Int} {le : α → α → Bool}

set_option maxRecDepth 100000 in
set_option maxHeartbeats 8000000 in
theorem sym_step_t {cap l : Nat} {a m e : Nat} (P A B T : List α) (cur : List α) (W : World) (hc : CmpT 134 tc cf w b) (hcl : CmpLe cf le) (hcur : cur = P ++ A ++ B ++ T) (hl : l = cur.length) (ha : a = P.length) (hm : m = a + A.length) (he : e = m + B.length) (hA2 : 2 ≤ A.length) (hB2 : 2 ≤ B.length)
    (ih : ∀ (P A' B' T cur : List α) (W : World) (l a m e : Nat), A'.length + B'.length < A.length + B.length → 0 < A'.length → 0 < B'.length → SortedL le A' → SortedL le B' → cur = P ++ A' ++ B' ++ T → l = cur.length → a = P.length → m = a + A'.length → e = m + B'.length → SortAt (encT tc) 3 w b o cur W → l ≤ cap → l ≤ 1000000000000 →
      Calls Tryz.prog 192 #[.slice (some ⟨b, o, none⟩) l cap, .int .i64 a, .int .i64 m, .int .i64 e, .func (.func 134) #[] #[]] W
        fun r w' => r = .returned (.tuple #[]) ∧ SortAt (encT tc) 3 w b o (P ++ mergeL le A' B' ++ T) w')
    (h : SortAt (encT tc) 3 w b o cur W) (hA : SortedL le A) (hB : SortedL le B) (hcap : l ≤ cap) (hcap2 : l ≤ 1000000000000) :
    Calls Tryz.prog 192 #[.slice (some ⟨b, o, none⟩) l cap, .int .i64 a, .int .i64 m, .int .i64 e, .func (.func 134) #[] #[]] W
      fun r w' => r = .returned (.tuple #[]) ∧ SortAt (encT tc) 3 w b o (P ++ mergeL le A B ++ T) w' := by
  have hnot : ∀ (x : Bool) (w : World), (Op.unary .not (.bool x)).run Tryz.prog w = .ok (.bool (!x)) w := fun _ _ => rfl
  have H := hid h
  have HC := hid hc
  have HL := hid hcl
  have HIH := hid ih
  have HCUR := hid hcur
  have HLL := hid hl
  have HA := hid ha
  have hml : e ≤ l := by rw [hl, hcur, he, hm, ha]; simp; omega
  have hae : a + 2 ≤ m := by omega
  have HM := hid hm
  have HE := hid he
  have hem : m + 2 ≤ e := by omega
  have q0 : ((m : Int) - (a : Int) == 1) = false := by rw [beq_eq_false_iff_ne]; omega
  have q00 : ((e : Int) - (m : Int) == 1) = false := by rw [beq_eq_false_iff_ne]; omega
  obtain ⟨d, hd⟩ : ∃ d, d = (a + e) / 2 := ⟨_, rfl⟩
  have q1 : ((a : Int) + (e : Int)) / 2 = (d : Int) := by omega
  have HD := hid hd
  have had : a < d := by omega
  have hde : d < e := by omega
  have hd2 : 2 * d ≤ a + e ∧ a + e ≤ 2 * d + 1 := by omega
  obtain ⟨hd21, hd22⟩ := hd2
  clear h hc hcl hcur hl ha he hm hA2 hB2 ih hd
  have hcase : (d < m ∧ ∃ lo : Nat, lo + e = d + m) ∨ m ≤ d := by
    rcases (show d < m ∨ m ≤ d by omega) with h | h
    · exact .inl ⟨h, d + m - e, by omega⟩
    · exact .inr h
  rcases hcase with ⟨hdm, lo0, hlo⟩ | hdm
  · have q2 : (d : Int) + (m : Int) - (e : Int) = (lo0 : Int) := by omega
    have HG : Hid (symGood a m e d lo0 d) := .inl ⟨hdm, hlo, rfl⟩
    have q3 : (m : Int) > (d : Int) := by omega
    have hlh : lo0 ≤ d := by omega
    go_enter Tryz.func192, Tryz.ntmps192
    go_wp2
    go_loopw [20, 21] (fun vi vj wr => ∃ i j lo hi : Nat, vi = .int .i64 i ∧ vj = .int .i64 j ∧ Hid (symGood a m e d lo hi) ∧ lo ≤ i ∧ i ≤ j ∧ j ≤ hi ∧ Hid (i = lo ∨ ∃ x z, cur[i - 1]? = some x ∧ cur[d + m - i]? = some z ∧ le x z = true) ∧ Hid (j = hi ∨ ∃ x z, cur[j]? = some x ∧ cur[d + m - j - 1]? = some z ∧ le x z = false) ∧ SortAt (encT tc) 3 w b o cur wr) (fun vi vj _ => (intOf vj).toNat - (intOf vi).toNat)
    case atStart => exact ⟨lo0, d, lo0, d, rfl, rfl, HG, Nat.le_refl _, hlh, Nat.le_refl _, .inl rfl, .inl rfl, H.out⟩
    case round =>
      clear HG q2 q3 hlh hlo hdm
      obtain ⟨i, j, lo, hi, rfl, rfl, HG, hli, hij, hjh, HI, HJ, hs⟩ := hrel
      have HS := hid hs
      have hb : a ≤ lo ∧ hi ≤ m ∧ hi ≤ d ∧ d + m ≤ lo + e := by have := HG.out; unfold symGood at this; omega
      obtain ⟨hb1, hb2, hb3, hb4⟩ := hb
      by_cases hlt : i < j
      · obtain ⟨h, hh⟩ : ∃ h, h = (i + j) / 2 := ⟨_, rfl⟩
        have hh1 : i ≤ h := by omega
        have hh2 : h < j := by omega
        obtain ⟨g, hg⟩ : ∃ g, g = d + m - h - 1 := ⟨_, rfl⟩
        have hge : g < e := by omega
        obtain ⟨x, hx⟩ := some_of_lt (l := cur) (j := h) (by rw [← HLL.out]; omega)
        obtain ⟨z, hz⟩ := some_of_lt (l := cur) (j := g) (by rw [← HLL.out]; omega)
        have HX := hid hx
        have HZ := hid hz
        have p1 : ((i : Int) + (j : Int)) / 2 = (h : Int) := by omega
        have p2 : (d : Int) + (m : Int) - 1 - (h : Int) = (g : Int) := by omega
        have p3 : (g : Int) < (l : Int) := by omega
        have p4 : (h : Int) < (l : Int) := by omega
        have L0 := fun Y : Later wr => (hs.later Y.h).get3 hz
        have L1 := fun Y : Later wr => (hs.later Y.h).get3 hx
        have LC := fun Y : Later wr => HC.out Y.w' (hs.later Y.h).grown z x
        have a0 := fun Y => (L0 Y).1.1
        have a1 := fun Y => (L0 Y).1.2.1
        have a2 := fun Y => (L0 Y).1.2.2
        have b0 := fun Y => (L1 Y).1.1
        have b1 := fun Y => (L1 Y).1.2.1
        have b2 := fun Y => (L1 Y).1.2.2
        obtain ⟨r1, r2⟩ := HL.out.range z x
        have HLE := hid (HL.out.eq z x)
        have HH := hid hh
        have HGG := hid hg
        generalize cf z x = c at *
        have HLC := hid LC
        clear L0 L1 LC hs hz hx hh hg
        by_cases hcc : c < 0
        · go_wp2
          refine wp_region_later (by kernel_rfl) (by kernel_rfl) ?_
          repeat (go_big_quiet_step (first | (go_at_call 134; exact Later.done (HLC.out _))))
          refine wpQuiet_nil ?_
          intro W2 hW2
          clear a0 a1 a2 b0 b1 b2
          have HD2 := hid (HS.out.later hW2)
          clear hW2
          go_wp2
          go_roundw
          case rel =>
            refine ⟨i, h, lo, hi, rfl, rfl, HG, hli, hh1, by omega, HI, .inr ⟨x, z, HX.out, by rw [← HGG.out]; exact HZ.out, ?_⟩, HD2.out⟩
            rw [HLE.out]; exact decide_eq_false (by omega)
          case measure => simp only [intOf]; omega
        · have q4 : decide (c < 0) = false := decide_eq_false hcc
          have q5 : c + 1 > 0 := by omega
          have HCC := hid hcc
          clear hcc
          go_wp2
          refine wp_region_later (by kernel_rfl) (by kernel_rfl) ?_
          repeat (go_big_quiet_step (first | (go_at_call 134; exact Later.done (HLC.out _))))
          refine wpQuiet_nil ?_
          intro W2 hW2
          clear a0 a1 a2 b0 b1 b2
          have HD2 := hid (HS.out.later hW2)
          clear hW2
          go_wp2
          go_roundw
          case rel =>
            refine ⟨h + 1, j, lo, hi, by go_num, rfl, HG, by omega, by omega, hjh, .inr ⟨x, z, by rw [Nat.add_sub_cancel]; exact HX.out, by rw [show d + m - (h + 1) = g by have := HGG.out; omega]; exact HZ.out, ?_⟩, HJ, HD2.out⟩
            rw [HLE.out]; exact decide_eq_true (by have := HCC.out; omega)
          case measure => simp only [intOf]; omega
      · obtain rfl : i = j := by omega
        obtain ⟨f, hf⟩ : ∃ f, f + i = d + m := ⟨d + m - i, by omega⟩
        obtain ⟨A1, A2, B1, B2, hA12, hB12, hsA, hfB, hmg⟩ := sym_split (f := f) HL.out.total hA hB HCUR.out HA.out HM.out HE.out HD.out HG.out hli hjh hf (by
          have := HI.out
          rwa [show d + m - i = f by omega] at this) (by
          have := HJ.out
          rwa [show d + m - i - 1 = f - 1 by omega] at this)
        have p1 : (d : Int) + (m : Int) - (i : Int) = (f : Int) := by omega
        have lA := HM.out
        have lB := HE.out
        rw [hA12] at lA
        rw [hB12] at lB
        simp only [List.length_append] at lA lB
        have lP := HA.out
        have HMG := hid hmg
        have HK0 : Hid (SortAt (encT tc) 3 w b o (P ++ A1 ++ A2 ++ B1 ++ B2 ++ T) wr) := hid (by
          have := HS.out
          rw [HCUR.out, hA12, hB12] at this
          simpa using this)
        have HLN : Hid (l = P.length + A1.length + A2.length + B1.length + B2.length + T.length) := hid (by rw [HLL.out, HCUR.out, hA12, hB12]; simp; omega)
        have HSZ : Hid (A.length = A1.length + A2.length ∧ B.length = B1.length + B2.length) := hid (by rw [hA12, hB12]; simp)
        have HSA : Hid (SortedL le A1 ∧ SortedL le A2 ∧ SortedL le B1 ∧ SortedL le B2) := hid (by
          rw [hA12] at hA
          rw [hB12] at hB
          have h1 := List.pairwise_append.1 hA
          have h2 := List.pairwise_append.1 hB
          exact ⟨h1.1, h1.2.1, h2.1, h2.2.1⟩)
        have LP := hid lP
        have LA := hid (And.intro lA lB)
        have LS := hid (And.intro hsA (And.intro hfB hf))
        have hmle : m ≤ l := by omega
        have hfle : f ≤ l := by omega
        clear hs hA12 hB12 hmg hli hij hjh hb1 hb2 hb3 hb4 hlt lA lB lP hsA hfB hf
        rcases (show (0 < A1.length ∧ 0 < A2.length ∧ 0 < B1.length ∧ 0 < B2.length) ∨ (0 < A1.length ∧ 0 < A2.length ∧ 0 < B1.length ∧ B2.length = 0) ∨ (0 < A1.length ∧ A2.length = 0 ∧ 0 < B1.length ∧ 0 < B2.length) ∨ (0 < A1.length ∧ 0 < A2.length ∧ B1.length = 0 ∧ 0 < B2.length) ∨ (0 < A1.length ∧ 0 < A2.length ∧ B1.length = 0 ∧ B2.length = 0) ∨ (0 < A1.length ∧ A2.length = 0 ∧ B1.length = 0 ∧ 0 < B2.length) ∨ (A1.length = 0 ∧ 0 < A2.length ∧ 0 < B1.length ∧ 0 < B2.length) ∨ (A1.length = 0 ∧ 0 < A2.length ∧ 0 < B1.length ∧ B2.length = 0) ∨ (A1.length = 0 ∧ A2.length = 0 ∧ 0 < B1.length ∧ 0 < B2.length) by have := LA.out; have := LS.out; omega) with ⟨n1, n2, n3, n4⟩ | ⟨n1, n2, n3, n4⟩ | ⟨n1, n2, n3, n4⟩ | ⟨n1, n2, n3, n4⟩ | ⟨n1, n2, n3, n4⟩ | ⟨n1, n2, n3, n4⟩ | ⟨n1, n2, n3, n4⟩ | ⟨n1, n2, n3, n4⟩ | ⟨n1, n2, n3, n4⟩
        · have f1 : (i : Int) < (m : Int) := by have := LA.out; have := LS.out; omega
          have f2 : (m : Int) < (f : Int) := by have := LA.out; have := LS.out; omega
          have f3 : (a : Int) < (i : Int) := by have := LA.out; have := LS.out; omega
          have f4 : (i : Int) < (d : Int) := by have := LA.out; have := LS.out; omega
          have f5 : (d : Int) < (f : Int) := by have := LA.out; have := LS.out; omega
          have f6 : (f : Int) < (e : Int) := by have := LA.out; have := LS.out; omega
          have HN1 := hid (And.intro n2 n3)
          have HNN := hid (And.intro n1 (And.intro n2 (And.intro n3 n4)))
          clear n1 n2 n3 n4
          have C1 := hid (rotate_t (tc := tc) (cap := cap) (l := l) (za := (i : Int)) (zm := (m : Int)) (zb := (f : Int)) (cv := .func (.func 134) #[] #[]) (P ++ A1) A2 B1 (B2 ++ T) wr (by simp) (by rw [HLN.out]; simp; omega) (by have := LS.out; have := LP.out; simp; omega) (by have := LS.out; have := LP.out; have := LA.out; simp; omega) (by have := LS.out; have := LP.out; have := LA.out; simp; omega) HK0.out (by intro hn; have := HNN.out; rw [hn] at this; simp at this) (by intro hn; have := HNN.out; rw [hn] at this; simp at this) hcap hcap2)
          go_wp2_with fail
          with_reducible refine C1.out.mono ?_
          rintro r w1 ⟨rfl, hk1⟩
          have HK1 : Hid (SortAt (encT tc) 3 w b o (P ++ A1 ++ B1 ++ A2 ++ B2 ++ T) w1) := hid (by simpa using hk1)
          clear hk1
          have C2 := hid (HIH.out P A1 B1 (A2 ++ B2 ++ T) _ w1 l a i d (by have := HNN.out; have := HSZ.out; omega) HNN.out.1 HNN.out.2.2.1 HSA.out.1 HSA.out.2.2.1 (by simp) (by rw [HLN.out]; simp; omega) LP.out LS.out.1 (by have := LS.out; have := LA.out; omega) HK1.out hcap hcap2)
          go_wp2_with fail
          with_reducible refine C2.out.mono ?_
          rintro r w2 ⟨rfl, hk2⟩
          have HK2 : Hid (SortAt (encT tc) 3 w b o (P ++ mergeL le A1 B1 ++ A2 ++ B2 ++ T) w2) := hid (by simpa using hk2)
          clear hk2
          have C3 := hid (HIH.out (P ++ mergeL le A1 B1) A2 B2 T _ w2 l d f e (by have := HNN.out; have := HSZ.out; omega) HNN.out.2.1 HNN.out.2.2.2 HSA.out.2.1 HSA.out.2.2.2 (by simp) (by rw [HLN.out]; simp; omega) (by have := LS.out; have := LA.out; have := LP.out; simp; omega) (by have := LS.out; have := LA.out; omega) (by have := LS.out; have := LA.out; omega) HK2.out hcap hcap2)
          go_wp2_with fail
          with_reducible refine C3.out.mono ?_
          rintro r w3 ⟨rfl, hk3⟩
          have HK3 : Hid (SortAt (encT tc) 3 w b o (P ++ mergeL le A B ++ T) w3) := hid (by rw [HMG.out]; simpa using hk3)
          clear hk3
          go_wp2
          all_goals
            go_end0
            exact ⟨rfl, by first | (with_reducible exact HK3.out) | (rw [← List.append_assoc]; with_reducible exact HK3.out)⟩
        · have f1 : (i : Int) < (m : Int) := by have := LA.out; have := LS.out; omega
          have f2 : (m : Int) < (f : Int) := by have := LA.out; have := LS.out; omega
          have f3 : (a : Int) < (i : Int) := by have := LA.out; have := LS.out; omega
          have f4 : (i : Int) < (d : Int) := by have := LA.out; have := LS.out; omega
          have f5 : (d : Int) < (f : Int) := by have := LA.out; have := LS.out; omega
          have f6 : (e : Int) ≤ (f : Int) := by have := LA.out; have := LS.out; omega
          have hzB2 : B2 = [] := List.length_eq_zero_iff.1 (by omega)
          have HZ := hid (And.intro (rfl : 0 = 0) hzB2)
          clear hzB2
          have HN1 := hid (And.intro n2 n3)
          have HNN := hid (And.intro n1 (And.intro n2 (And.intro n3 n4)))
          clear n1 n2 n3 n4
          have C1 := hid (rotate_t (tc := tc) (cap := cap) (l := l) (za := (i : Int)) (zm := (m : Int)) (zb := (f : Int)) (cv := .func (.func 134) #[] #[]) (P ++ A1) A2 B1 (B2 ++ T) wr (by simp) (by rw [HLN.out]; simp; omega) (by have := LS.out; have := LP.out; simp; omega) (by have := LS.out; have := LP.out; have := LA.out; simp; omega) (by have := LS.out; have := LP.out; have := LA.out; simp; omega) HK0.out (by intro hn; have := HNN.out; rw [hn] at this; simp at this) (by intro hn; have := HNN.out; rw [hn] at this; simp at this) hcap hcap2)
          go_wp2_with fail
          with_reducible refine C1.out.mono ?_
          rintro r w1 ⟨rfl, hk1⟩
          have HK1 : Hid (SortAt (encT tc) 3 w b o (P ++ A1 ++ B1 ++ A2 ++ B2 ++ T) w1) := hid (by simpa using hk1)
          clear hk1
          have C2 := hid (HIH.out P A1 B1 (A2 ++ B2 ++ T) _ w1 l a i d (by have := HNN.out; have := HSZ.out; omega) HNN.out.1 HNN.out.2.2.1 HSA.out.1 HSA.out.2.2.1 (by simp) (by rw [HLN.out]; simp; omega) LP.out LS.out.1 (by have := LS.out; have := LA.out; omega) HK1.out hcap hcap2)
          go_wp2_with fail
          with_reducible refine C2.out.mono ?_
          rintro r w2 ⟨rfl, hk2⟩
          have HK2 : Hid (SortAt (encT tc) 3 w b o (P ++ mergeL le A1 B1 ++ A2 ++ B2 ++ T) w2) := hid (by simpa using hk2)
          clear hk2
          have HK3 : Hid (SortAt (encT tc) 3 w b o (P ++ mergeL le A B ++ T) w2) := hid (by
            have := HK2.out
            rw [HMG.out]
            obtain ⟨-, hzB2⟩ := HZ.out
            subst hzB2
            simpa [mergeL_nil, mergeL_right] using this)
          go_wp2
          all_goals
            go_end0
            exact ⟨rfl, by first | (with_reducible exact HK3.out) | (rw [← List.append_assoc]; with_reducible exact HK3.out)⟩
        · have f1 : (m : Int) ≤ (i : Int) := by have := LA.out; have := LS.out; omega
          have f2 : (m : Int) < (f : Int) := by have := LA.out; have := LS.out; omega
          have f3 : (a : Int) < (i : Int) := by have := LA.out; have := LS.out; omega
          have f4 : (i : Int) < (d : Int) := by have := LA.out; have := LS.out; omega
          have f5 : (f : Int) ≤ (d : Int) := by have := LA.out; have := LS.out; omega
          have f6 : (f : Int) < (e : Int) := by have := LA.out; have := LS.out; omega
          have hzA2 : A2 = [] := List.length_eq_zero_iff.1 (by omega)
          have HZ := hid (And.intro (rfl : 0 = 0) hzA2)
          clear hzA2
          have HNN := hid (And.intro n1 (And.intro n2 (And.intro n3 n4)))
          clear n1 n2 n3 n4
          have HK1 : Hid (SortAt (encT tc) 3 w b o (P ++ A1 ++ B1 ++ A2 ++ B2 ++ T) wr) := hid (by
            have := HK0.out
            obtain ⟨-, hzA2⟩ := HZ.out
            subst hzA2
            simpa using this)
          have C2 := hid (HIH.out P A1 B1 (A2 ++ B2 ++ T) _ wr l a i d (by have := HNN.out; have := HSZ.out; omega) HNN.out.1 HNN.out.2.2.1 HSA.out.1 HSA.out.2.2.1 (by simp) (by rw [HLN.out]; simp; omega) LP.out LS.out.1 (by have := LS.out; have := LA.out; omega) HK1.out hcap hcap2)
          go_wp2_with fail
          with_reducible refine C2.out.mono ?_
          rintro r w2 ⟨rfl, hk2⟩
          have HK2 : Hid (SortAt (encT tc) 3 w b o (P ++ mergeL le A1 B1 ++ A2 ++ B2 ++ T) w2) := hid (by simpa using hk2)
          clear hk2
          have HK3 : Hid (SortAt (encT tc) 3 w b o (P ++ mergeL le A B ++ T) w2) := hid (by
            have := HK2.out
            rw [HMG.out]
            obtain ⟨-, hzA2⟩ := HZ.out
            subst hzA2
            simpa [mergeL_nil, mergeL_right] using this)
          go_wp2
          all_goals
            go_end0
            exact ⟨rfl, by first | (with_reducible exact HK3.out) | (rw [← List.append_assoc]; with_reducible exact HK3.out)⟩
        · have f1 : (i : Int) < (m : Int) := by have := LA.out; have := LS.out; omega
          have f2 : (f : Int) ≤ (m : Int) := by have := LA.out; have := LS.out; omega
          have f3 : (a : Int) < (i : Int) := by have := LA.out; have := LS.out; omega
          have f4 : (d : Int) ≤ (i : Int) := by have := LA.out; have := LS.out; omega
          have f5 : (d : Int) < (f : Int) := by have := LA.out; have := LS.out; omega
          have f6 : (f : Int) < (e : Int) := by have := LA.out; have := LS.out; omega
          have hzB1 : B1 = [] := List.length_eq_zero_iff.1 (by omega)
          have HZ := hid (And.intro (rfl : 0 = 0) hzB1)
          clear hzB1
          have HNN := hid (And.intro n1 (And.intro n2 (And.intro n3 n4)))
          clear n1 n2 n3 n4
          have HK1 : Hid (SortAt (encT tc) 3 w b o (P ++ A1 ++ B1 ++ A2 ++ B2 ++ T) wr) := hid (by
            have := HK0.out
            obtain ⟨-, hzB1⟩ := HZ.out
            subst hzB1
            simpa using this)
          have HK2 : Hid (SortAt (encT tc) 3 w b o (P ++ mergeL le A1 B1 ++ A2 ++ B2 ++ T) wr) := hid (by
            have := HK1.out
            obtain ⟨-, hzB1⟩ := HZ.out
            subst hzB1
            simpa [mergeL_nil, mergeL_right] using this)
          have C3 := hid (HIH.out (P ++ mergeL le A1 B1) A2 B2 T _ wr l d f e (by have := HNN.out; have := HSZ.out; omega) HNN.out.2.1 HNN.out.2.2.2 HSA.out.2.1 HSA.out.2.2.2 (by simp) (by rw [HLN.out]; simp; omega) (by have := LS.out; have := LA.out; have := LP.out; simp; omega) (by have := LS.out; have := LA.out; omega) (by have := LS.out; have := LA.out; omega) HK2.out hcap hcap2)
          go_wp2_with fail
          with_reducible refine C3.out.mono ?_
          rintro r w3 ⟨rfl, hk3⟩
          have HK3 : Hid (SortAt (encT tc) 3 w b o (P ++ mergeL le A B ++ T) w3) := hid (by rw [HMG.out]; simpa using hk3)
          clear hk3
          go_wp2
          all_goals
            go_end0
            exact ⟨rfl, by first | (with_reducible exact HK3.out) | (rw [← List.append_assoc]; with_reducible exact HK3.out)⟩
        · have f1 : (i : Int) < (m : Int) := by have := LA.out; have := LS.out; omega
          have f2 : (f : Int) ≤ (m : Int) := by have := LA.out; have := LS.out; omega
          have f3 : (a : Int) < (i : Int) := by have := LA.out; have := LS.out; omega
          have f4 : (d : Int) ≤ (i : Int) := by have := LA.out; have := LS.out; omega
          have f5 : (d : Int) < (f : Int) := by have := LA.out; have := LS.out; omega
          have f6 : (e : Int) ≤ (f : Int) := by have := LA.out; have := LS.out; omega
          have hzB1 : B1 = [] := List.length_eq_zero_iff.1 (by omega)
          have hzB2 : B2 = [] := List.length_eq_zero_iff.1 (by omega)
          have HZ := hid (And.intro (rfl : 0 = 0) (And.intro hzB1 hzB2))
          clear hzB1
          clear hzB2
          have HNN := hid (And.intro n1 (And.intro n2 (And.intro n3 n4)))
          clear n1 n2 n3 n4
          have HK1 : Hid (SortAt (encT tc) 3 w b o (P ++ A1 ++ B1 ++ A2 ++ B2 ++ T) wr) := hid (by
            have := HK0.out
            obtain ⟨-, hzB1, hzB2⟩ := HZ.out
            subst hzB1 hzB2
            simpa using this)
          have HK2 : Hid (SortAt (encT tc) 3 w b o (P ++ mergeL le A1 B1 ++ A2 ++ B2 ++ T) wr) := hid (by
            have := HK1.out
            obtain ⟨-, hzB1, hzB2⟩ := HZ.out
            subst hzB1 hzB2
            simpa [mergeL_nil, mergeL_right] using this)
          have HK3 : Hid (SortAt (encT tc) 3 w b o (P ++ mergeL le A B ++ T) wr) := hid (by
            have := HK2.out
            rw [HMG.out]
            obtain ⟨-, hzB1, hzB2⟩ := HZ.out
            subst hzB1 hzB2
            simpa [mergeL_nil, mergeL_right] using this)
          go_wp2
          all_goals
            go_end0
            exact ⟨rfl, by first | (with_reducible exact HK3.out) | (rw [← List.append_assoc]; with_reducible exact HK3.out)⟩
        · have f1 : (m : Int) ≤ (i : Int) := by have := LA.out; have := LS.out; omega
          have f2 : (f : Int) ≤ (m : Int) := by have := LA.out; have := LS.out; omega
          have f3 : (a : Int) < (i : Int) := by have := LA.out; have := LS.out; omega
          have f4 : (d : Int) ≤ (i : Int) := by have := LA.out; have := LS.out; omega
          have f5 : (f : Int) ≤ (d : Int) := by have := LA.out; have := LS.out; omega
          have f6 : (f : Int) < (e : Int) := by have := LA.out; have := LS.out; omega
          have hzA2 : A2 = [] := List.length_eq_zero_iff.1 (by omega)
          have hzB1 : B1 = [] := List.length_eq_zero_iff.1 (by omega)
          have HZ := hid (And.intro (rfl : 0 = 0) (And.intro hzA2 hzB1))
          clear hzA2
          clear hzB1
          have HNN := hid (And.intro n1 (And.intro n2 (And.intro n3 n4)))
          clear n1 n2 n3 n4
          have HK1 : Hid (SortAt (encT tc) 3 w b o (P ++ A1 ++ B1 ++ A2 ++ B2 ++ T) wr) := hid (by
            have := HK0.out
            obtain ⟨-, hzA2, hzB1⟩ := HZ.out
            subst hzA2 hzB1
            simpa using this)
          have HK2 : Hid (SortAt (encT tc) 3 w b o (P ++ mergeL le A1 B1 ++ A2 ++ B2 ++ T) wr) := hid (by
            have := HK1.out
            obtain ⟨-, hzA2, hzB1⟩ := HZ.out
            subst hzA2 hzB1
            simpa [mergeL_nil, mergeL_right] using this)
          have HK3 : Hid (SortAt (encT tc) 3 w b o (P ++ mergeL le A B ++ T) wr) := hid (by
            have := HK2.out
            rw [HMG.out]
            obtain ⟨-, hzA2, hzB1⟩ := HZ.out
            subst hzA2 hzB1
            simpa [mergeL_nil, mergeL_right] using this)
          go_wp2
          all_goals
            go_end0
            exact ⟨rfl, by first | (with_reducible exact HK3.out) | (rw [← List.append_assoc]; with_reducible exact HK3.out)⟩
        · have f1 : (i : Int) < (m : Int) := by have := LA.out; have := LS.out; omega
          have f2 : (m : Int) < (f : Int) := by have := LA.out; have := LS.out; omega
          have f3 : (i : Int) ≤ (a : Int) := by have := LA.out; have := LS.out; omega
          have f4 : (i : Int) < (d : Int) := by have := LA.out; have := LS.out; omega
          have f5 : (d : Int) < (f : Int) := by have := LA.out; have := LS.out; omega
          have f6 : (f : Int) < (e : Int) := by have := LA.out; have := LS.out; omega
          have hzA1 : A1 = [] := List.length_eq_zero_iff.1 (by omega)
          have HZ := hid (And.intro (rfl : 0 = 0) hzA1)
          clear hzA1
          have HN1 := hid (And.intro n2 n3)
          have HNN := hid (And.intro n1 (And.intro n2 (And.intro n3 n4)))
          clear n1 n2 n3 n4
          have C1 := hid (rotate_t (tc := tc) (cap := cap) (l := l) (za := (i : Int)) (zm := (m : Int)) (zb := (f : Int)) (cv := .func (.func 134) #[] #[]) (P ++ A1) A2 B1 (B2 ++ T) wr (by simp) (by rw [HLN.out]; simp; omega) (by have := LS.out; have := LP.out; simp; omega) (by have := LS.out; have := LP.out; have := LA.out; simp; omega) (by have := LS.out; have := LP.out; have := LA.out; simp; omega) HK0.out (by intro hn; have := HNN.out; rw [hn] at this; simp at this) (by intro hn; have := HNN.out; rw [hn] at this; simp at this) hcap hcap2)
          go_wp2_with fail
          with_reducible refine C1.out.mono ?_
          rintro r w1 ⟨rfl, hk1⟩
          have HK1 : Hid (SortAt (encT tc) 3 w b o (P ++ A1 ++ B1 ++ A2 ++ B2 ++ T) w1) := hid (by simpa using hk1)
          clear hk1
          have HK2 : Hid (SortAt (encT tc) 3 w b o (P ++ mergeL le A1 B1 ++ A2 ++ B2 ++ T) w1) := hid (by
            have := HK1.out
            obtain ⟨-, hzA1⟩ := HZ.out
            subst hzA1
            simpa [mergeL_nil, mergeL_right] using this)
          have C3 := hid (HIH.out (P ++ mergeL le A1 B1) A2 B2 T _ w1 l d f e (by have := HNN.out; have := HSZ.out; omega) HNN.out.2.1 HNN.out.2.2.2 HSA.out.2.1 HSA.out.2.2.2 (by simp) (by rw [HLN.out]; simp; omega) (by have := LS.out; have := LA.out; have := LP.out; simp; omega) (by have := LS.out; have := LA.out; omega) (by have := LS.out; have := LA.out; omega) HK2.out hcap hcap2)
          go_wp2_with fail
          with_reducible refine C3.out.mono ?_
          rintro r w3 ⟨rfl, hk3⟩
          have HK3 : Hid (SortAt (encT tc) 3 w b o (P ++ mergeL le A B ++ T) w3) := hid (by rw [HMG.out]; simpa using hk3)
          clear hk3
          go_wp2
          all_goals
            go_end0
            exact ⟨rfl, by first | (with_reducible exact HK3.out) | (rw [← List.append_assoc]; with_reducible exact HK3.out)⟩
        · have f1 : (i : Int) < (m : Int) := by have := LA.out; have := LS.out; omega
          have f2 : (m : Int) < (f : Int) := by have := LA.out; have := LS.out; omega
          have f3 : (i : Int) ≤ (a : Int) := by have := LA.out; have := LS.out; omega
          have f4 : (i : Int) < (d : Int) := by have := LA.out; have := LS.out; omega
          have f5 : (d : Int) < (f : Int) := by have := LA.out; have := LS.out; omega
          have f6 : (e : Int) ≤ (f : Int) := by have := LA.out; have := LS.out; omega
          have hzA1 : A1 = [] := List.length_eq_zero_iff.1 (by omega)
          have hzB2 : B2 = [] := List.length_eq_zero_iff.1 (by omega)
          have HZ := hid (And.intro (rfl : 0 = 0) (And.intro hzA1 hzB2))
          clear hzA1
          clear hzB2
          have HN1 := hid (And.intro n2 n3)
          have HNN := hid (And.intro n1 (And.intro n2 (And.intro n3 n4)))
          clear n1 n2 n3 n4
          have C1 := hid (rotate_t (tc := tc) (cap := cap) (l := l) (za := (i : Int)) (zm := (m : Int)) (zb := (f : Int)) (cv := .func (.func 134) #[] #[]) (P ++ A1) A2 B1 (B2 ++ T) wr (by simp) (by rw [HLN.out]; simp; omega) (by have := LS.out; have := LP.out; simp; omega) (by have := LS.out; have := LP.out; have := LA.out; simp; omega) (by have := LS.out; have := LP.out; have := LA.out; simp; omega) HK0.out (by intro hn; have := HNN.out; rw [hn] at this; simp at this) (by intro hn; have := HNN.out; rw [hn] at this; simp at this) hcap hcap2)
          go_wp2_with fail
          with_reducible refine C1.out.mono ?_
          rintro r w1 ⟨rfl, hk1⟩
          have HK1 : Hid (SortAt (encT tc) 3 w b o (P ++ A1 ++ B1 ++ A2 ++ B2 ++ T) w1) := hid (by simpa using hk1)
          clear hk1
          have HK2 : Hid (SortAt (encT tc) 3 w b o (P ++ mergeL le A1 B1 ++ A2 ++ B2 ++ T) w1) := hid (by
            have := HK1.out
            obtain ⟨-, hzA1, hzB2⟩ := HZ.out
            subst hzA1 hzB2
            simpa [mergeL_nil, mergeL_right] using this)
          have HK3 : Hid (SortAt (encT tc) 3 w b o (P ++ mergeL le A B ++ T) w1) := hid (by
            have := HK2.out
            rw [HMG.out]
            obtain ⟨-, hzA1, hzB2⟩ := HZ.out
            subst hzA1 hzB2
            simpa [mergeL_nil, mergeL_right] using this)
          go_wp2
          all_goals
            go_end0
            exact ⟨rfl, by first | (with_reducible exact HK3.out) | (rw [← List.append_assoc]; with_reducible exact HK3.out)⟩
        · have f1 : (m : Int) ≤ (i : Int) := by have := LA.out; have := LS.out; omega
          have f2 : (m : Int) < (f : Int) := by have := LA.out; have := LS.out; omega
          have f3 : (i : Int) ≤ (a : Int) := by have := LA.out; have := LS.out; omega
          have f4 : (i : Int) < (d : Int) := by have := LA.out; have := LS.out; omega
          have f5 : (f : Int) ≤ (d : Int) := by have := LA.out; have := LS.out; omega
          have f6 : (f : Int) < (e : Int) := by have := LA.out; have := LS.out; omega
          have hzA1 : A1 = [] := List.length_eq_zero_iff.1 (by omega)
          have hzA2 : A2 = [] := List.length_eq_zero_iff.1 (by omega)
          have HZ := hid (And.intro (rfl : 0 = 0) (And.intro hzA1 hzA2))
          clear hzA1
          clear hzA2
          have HNN := hid (And.intro n1 (And.intro n2 (And.intro n3 n4)))
          clear n1 n2 n3 n4
          have HK1 : Hid (SortAt (encT tc) 3 w b o (P ++ A1 ++ B1 ++ A2 ++ B2 ++ T) wr) := hid (by
            have := HK0.out
            obtain ⟨-, hzA1, hzA2⟩ := HZ.out
            subst hzA1 hzA2
            simpa using this)
          have HK2 : Hid (SortAt (encT tc) 3 w b o (P ++ mergeL le A1 B1 ++ A2 ++ B2 ++ T) wr) := hid (by
            have := HK1.out
            obtain ⟨-, hzA1, hzA2⟩ := HZ.out
            subst hzA1 hzA2
            simpa [mergeL_nil, mergeL_right] using this)
          have HK3 : Hid (SortAt (encT tc) 3 w b o (P ++ mergeL le A B ++ T) wr) := hid (by
            have := HK2.out
            rw [HMG.out]
            obtain ⟨-, hzA1, hzA2⟩ := HZ.out
            subst hzA1 hzA2
            simpa [mergeL_nil, mergeL_right] using this)
          go_wp2
          all_goals
            go_end0
            exact ⟨rfl, by first | (with_reducible exact HK3.out) | (rw [← List.append_assoc]; with_reducible exact HK3.out)⟩
  · have q3 : ¬ (m : Int) > (d : Int) := by omega
    have HG : Hid (symGood a m e d a m) := .inr ⟨hdm, rfl, rfl⟩
    have hlh : a ≤ m := by omega
    go_enter Tryz.func192, Tryz.ntmps192
    go_wp2
    go_loopw [20, 21] (fun vi vj wr => ∃ i j lo hi : Nat, vi = .int .i64 i ∧ vj = .int .i64 j ∧ Hid (symGood a m e d lo hi) ∧ lo ≤ i ∧ i ≤ j ∧ j ≤ hi ∧ Hid (i = lo ∨ ∃ x z, cur[i - 1]? = some x ∧ cur[d + m - i]? = some z ∧ le x z = true) ∧ Hid (j = hi ∨ ∃ x z, cur[j]? = some x ∧ cur[d + m - j - 1]? = some z ∧ le x z = false) ∧ SortAt (encT tc) 3 w b o cur wr) (fun vi vj _ => (intOf vj).toNat - (intOf vi).toNat)
    case atStart => exact ⟨a, m, a, m, rfl, rfl, HG, Nat.le_refl _, hlh, Nat.le_refl _, .inl rfl, .inl rfl, H.out⟩
    case round =>
      clear HG q3 hlh hdm
      obtain ⟨i, j, lo, hi, rfl, rfl, HG, hli, hij, hjh, HI, HJ, hs⟩ := hrel
      have HS := hid hs
      have hb : a ≤ lo ∧ hi ≤ m ∧ hi ≤ d ∧ d + m ≤ lo + e := by have := HG.out; unfold symGood at this; omega
      obtain ⟨hb1, hb2, hb3, hb4⟩ := hb
      by_cases hlt : i < j
      · obtain ⟨h, hh⟩ : ∃ h, h = (i + j) / 2 := ⟨_, rfl⟩
        have hh1 : i ≤ h := by omega
        have hh2 : h < j := by omega
        obtain ⟨g, hg⟩ : ∃ g, g = d + m - h - 1 := ⟨_, rfl⟩
        have hge : g < e := by omega
        obtain ⟨x, hx⟩ := some_of_lt (l := cur) (j := h) (by rw [← HLL.out]; omega)
        obtain ⟨z, hz⟩ := some_of_lt (l := cur) (j := g) (by rw [← HLL.out]; omega)
        have HX := hid hx
        have HZ := hid hz
        have p1 : ((i : Int) + (j : Int)) / 2 = (h : Int) := by omega
        have p2 : (d : Int) + (m : Int) - 1 - (h : Int) = (g : Int) := by omega
        have p3 : (g : Int) < (l : Int) := by omega
        have p4 : (h : Int) < (l : Int) := by omega
        have L0 := fun Y : Later wr => (hs.later Y.h).get3 hz
        have L1 := fun Y : Later wr => (hs.later Y.h).get3 hx
        have LC := fun Y : Later wr => HC.out Y.w' (hs.later Y.h).grown z x
        have a0 := fun Y => (L0 Y).1.1
        have a1 := fun Y => (L0 Y).1.2.1
        have a2 := fun Y => (L0 Y).1.2.2
        have b0 := fun Y => (L1 Y).1.1
        have b1 := fun Y => (L1 Y).1.2.1
        have b2 := fun Y => (L1 Y).1.2.2
        obtain ⟨r1, r2⟩ := HL.out.range z x
        have HLE := hid (HL.out.eq z x)
        have HH := hid hh
        have HGG := hid hg
        generalize cf z x = c at *
        have HLC := hid LC
        clear L0 L1 LC hs hz hx hh hg
        by_cases hcc : c < 0
        · go_wp2
          refine wp_region_later (by kernel_rfl) (by kernel_rfl) ?_
          repeat (go_big_quiet_step (first | (go_at_call 134; exact Later.done (HLC.out _))))
          refine wpQuiet_nil ?_
          intro W2 hW2
          clear a0 a1 a2 b0 b1 b2
          have HD2 := hid (HS.out.later hW2)
          clear hW2
          go_wp2
          go_roundw
          case rel =>
            refine ⟨i, h, lo, hi, rfl, rfl, HG, hli, hh1, by omega, HI, .inr ⟨x, z, HX.out, by rw [← HGG.out]; exact HZ.out, ?_⟩, HD2.out⟩
            rw [HLE.out]; exact decide_eq_false (by omega)
          case measure => simp only [intOf]; omega
        · have q4 : decide (c < 0) = false := decide_eq_false hcc
          have q5 : c + 1 > 0 := by omega
          have HCC := hid hcc
          clear hcc
          go_wp2
          refine wp_region_later (by kernel_rfl) (by kernel_rfl) ?_
          repeat (go_big_quiet_step (first | (go_at_call 134; exact Later.done (HLC.out _))))
          refine wpQuiet_nil ?_
          intro W2 hW2
          clear a0 a1 a2 b0 b1 b2
          have HD2 := hid (HS.out.later hW2)
          clear hW2
          go_wp2
          go_roundw
          case rel =>
            refine ⟨h + 1, j, lo, hi, by go_num, rfl, HG, by omega, by omega, hjh, .inr ⟨x, z, by rw [Nat.add_sub_cancel]; exact HX.out, by rw [show d + m - (h + 1) = g by have := HGG.out; omega]; exact HZ.out, ?_⟩, HJ, HD2.out⟩
            rw [HLE.out]; exact decide_eq_true (by have := HCC.out; omega)
          case measure => simp only [intOf]; omega
      · obtain rfl : i = j := by omega
        obtain ⟨f, hf⟩ : ∃ f, f + i = d + m := ⟨d + m - i, by omega⟩
        obtain ⟨A1, A2, B1, B2, hA12, hB12, hsA, hfB, hmg⟩ := sym_split (f := f) HL.out.total hA hB HCUR.out HA.out HM.out HE.out HD.out HG.out hli hjh hf (by
          have := HI.out
          rwa [show d + m - i = f by omega] at this) (by
          have := HJ.out
          rwa [show d + m - i - 1 = f - 1 by omega] at this)
        have p1 : (d : Int) + (m : Int) - (i : Int) = (f : Int) := by omega
        have lA := HM.out
        have lB := HE.out
        rw [hA12] at lA
        rw [hB12] at lB
        simp only [List.length_append] at lA lB
        have lP := HA.out
        have HMG := hid hmg
        have HK0 : Hid (SortAt (encT tc) 3 w b o (P ++ A1 ++ A2 ++ B1 ++ B2 ++ T) wr) := hid (by
          have := HS.out
          rw [HCUR.out, hA12, hB12] at this
          simpa using this)
        have HLN : Hid (l = P.length + A1.length + A2.length + B1.length + B2.length + T.length) := hid (by rw [HLL.out, HCUR.out, hA12, hB12]; simp; omega)
        have HSZ : Hid (A.length = A1.length + A2.length ∧ B.length = B1.length + B2.length) := hid (by rw [hA12, hB12]; simp)
        have HSA : Hid (SortedL le A1 ∧ SortedL le A2 ∧ SortedL le B1 ∧ SortedL le B2) := hid (by
          rw [hA12] at hA
          rw [hB12] at hB
          have h1 := List.pairwise_append.1 hA
          have h2 := List.pairwise_append.1 hB
          exact ⟨h1.1, h1.2.1, h2.1, h2.2.1⟩)
        have LP := hid lP
        have LA := hid (And.intro lA lB)
        have LS := hid (And.intro hsA (And.intro hfB hf))
        have hmle : m ≤ l := by omega
        have hfle : f ≤ l := by omega
        clear hs hA12 hB12 hmg hli hij hjh hb1 hb2 hb3 hb4 hlt lA lB lP hsA hfB hf
        rcases (show (0 < A1.length ∧ 0 < A2.length ∧ 0 < B1.length ∧ 0 < B2.length) ∨ (0 < A1.length ∧ 0 < A2.length ∧ 0 < B1.length ∧ B2.length = 0) ∨ (0 < A1.length ∧ A2.length = 0 ∧ 0 < B1.length ∧ 0 < B2.length) ∨ (0 < A1.length ∧ 0 < A2.length ∧ B1.length = 0 ∧ 0 < B2.length) ∨ (0 < A1.length ∧ 0 < A2.length ∧ B1.length = 0 ∧ B2.length = 0) ∨ (0 < A1.length ∧ A2.length = 0 ∧ B1.length = 0 ∧ 0 < B2.length) ∨ (A1.length = 0 ∧ 0 < A2.length ∧ 0 < B1.length ∧ 0 < B2.length) ∨ (A1.length = 0 ∧ 0 < A2.length ∧ 0 < B1.length ∧ B2.length = 0) ∨ (A1.length = 0 ∧ A2.length = 0 ∧ 0 < B1.length ∧ 0 < B2.length) by have := LA.out; have := LS.out; omega) with ⟨n1, n2, n3, n4⟩ | ⟨n1, n2, n3, n4⟩ | ⟨n1, n2, n3, n4⟩ | ⟨n1, n2, n3, n4⟩ | ⟨n1, n2, n3, n4⟩ | ⟨n1, n2, n3, n4⟩ | ⟨n1, n2, n3, n4⟩ | ⟨n1, n2, n3, n4⟩ | ⟨n1, n2, n3, n4⟩
        · have f1 : (i : Int) < (m : Int) := by have := LA.out; have := LS.out; omega
          have f2 : (m : Int) < (f : Int) := by have := LA.out; have := LS.out; omega
          have f3 : (a : Int) < (i : Int) := by have := LA.out; have := LS.out; omega
          have f4 : (i : Int) < (d : Int) := by have := LA.out; have := LS.out; omega
          have f5 : (d : Int) < (f : Int) := by have := LA.out; have := LS.out; omega
          have f6 : (f : Int) < (e : Int) := by have := LA.out; have := LS.out; omega
          have HN1 := hid (And.intro n2 n3)
          have HNN := hid (And.intro n1 (And.intro n2 (And.intro n3 n4)))
          clear n1 n2 n3 n4
          have C1 := hid (rotate_t (tc := tc) (cap := cap) (l := l) (za := (i : Int)) (zm := (m : Int)) (zb := (f : Int)) (cv := .func (.func 134) #[] #[]) (P ++ A1) A2 B1 (B2 ++ T) wr (by simp) (by rw [HLN.out]; simp; omega) (by have := LS.out; have := LP.out; simp; omega) (by have := LS.out; have := LP.out; have := LA.out; simp; omega) (by have := LS.out; have := LP.out; have := LA.out; simp; omega) HK0.out (by intro hn; have := HNN.out; rw [hn] at this; simp at this) (by intro hn; have := HNN.out; rw [hn] at this; simp at this) hcap hcap2)
          go_wp2_with fail
          with_reducible refine C1.out.mono ?_
          rintro r w1 ⟨rfl, hk1⟩
          have HK1 : Hid (SortAt (encT tc) 3 w b o (P ++ A1 ++ B1 ++ A2 ++ B2 ++ T) w1) := hid (by simpa using hk1)
          clear hk1
          have C2 := hid (HIH.out P A1 B1 (A2 ++ B2 ++ T) _ w1 l a i d (by have := HNN.out; have := HSZ.out; omega) HNN.out.1 HNN.out.2.2.1 HSA.out.1 HSA.out.2.2.1 (by simp) (by rw [HLN.out]; simp; omega) LP.out LS.out.1 (by have := LS.out; have := LA.out; omega) HK1.out hcap hcap2)
          go_wp2_with fail
          with_reducible refine C2.out.mono ?_
          rintro r w2 ⟨rfl, hk2⟩
          have HK2 : Hid (SortAt (encT tc) 3 w b o (P ++ mergeL le A1 B1 ++ A2 ++ B2 ++ T) w2) := hid (by simpa using hk2)
          clear hk2
          have C3 := hid (HIH.out (P ++ mergeL le A1 B1) A2 B2 T _ w2 l d f e (by have := HNN.out; have := HSZ.out; omega) HNN.out.2.1 HNN.out.2.2.2 HSA.out.2.1 HSA.out.2.2.2 (by simp) (by rw [HLN.out]; simp; omega) (by have := LS.out; have := LA.out; have := LP.out; simp; omega) (by have := LS.out; have := LA.out; omega) (by have := LS.out; have := LA.out; omega) HK2.out hcap hcap2)
          go_wp2_with fail
          with_reducible refine C3.out.mono ?_
          rintro r w3 ⟨rfl, hk3⟩
          have HK3 : Hid (SortAt (encT tc) 3 w b o (P ++ mergeL le A B ++ T) w3) := hid (by rw [HMG.out]; simpa using hk3)
          clear hk3
          go_wp2
          all_goals
            go_end0
            exact ⟨rfl, by first | (with_reducible exact HK3.out) | (rw [← List.append_assoc]; with_reducible exact HK3.out)⟩
        · have f1 : (i : Int) < (m : Int) := by have := LA.out; have := LS.out; omega
          have f2 : (m : Int) < (f : Int) := by have := LA.out; have := LS.out; omega
          have f3 : (a : Int) < (i : Int) := by have := LA.out; have := LS.out; omega
          have f4 : (i : Int) < (d : Int) := by have := LA.out; have := LS.out; omega
          have f5 : (d : Int) < (f : Int) := by have := LA.out; have := LS.out; omega
          have f6 : (e : Int) ≤ (f : Int) := by have := LA.out; have := LS.out; omega
          have hzB2 : B2 = [] := List.length_eq_zero_iff.1 (by omega)
          have HZ := hid (And.intro (rfl : 0 = 0) hzB2)
          clear hzB2
          have HN1 := hid (And.intro n2 n3)
          have HNN := hid (And.intro n1 (And.intro n2 (And.intro n3 n4)))
          clear n1 n2 n3 n4
          have C1 := hid (rotate_t (tc := tc) (cap := cap) (l := l) (za := (i : Int)) (zm := (m : Int)) (zb := (f : Int)) (cv := .func (.func 134) #[] #[]) (P ++ A1) A2 B1 (B2 ++ T) wr (by simp) (by rw [HLN.out]; simp; omega) (by have := LS.out; have := LP.out; simp; omega) (by have := LS.out; have := LP.out; have := LA.out; simp; omega) (by have := LS.out; have := LP.out; have := LA.out; simp; omega) HK0.out (by intro hn; have := HNN.out; rw [hn] at this; simp at this) (by intro hn; have := HNN.out; rw [hn] at this; simp at this) hcap hcap2)
          go_wp2_with fail
          with_reducible refine C1.out.mono ?_
          rintro r w1 ⟨rfl, hk1⟩
          have HK1 : Hid (SortAt (encT tc) 3 w b o (P ++ A1 ++ B1 ++ A2 ++ B2 ++ T) w1) := hid (by simpa using hk1)
          clear hk1
          have C2 := hid (HIH.out P A1 B1 (A2 ++ B2 ++ T) _ w1 l a i d (by have := HNN.out; have := HSZ.out; omega) HNN.out.1 HNN.out.2.2.1 HSA.out.1 HSA.out.2.2.1 (by simp) (by rw [HLN.out]; simp; omega) LP.out LS.out.1 (by have := LS.out; have := LA.out; omega) HK1.out hcap hcap2)
          go_wp2_with fail
          with_reducible refine C2.out.mono ?_
          rintro r w2 ⟨rfl, hk2⟩
          have HK2 : Hid (SortAt (encT tc) 3 w b o (P ++ mergeL le A1 B1 ++ A2 ++ B2 ++ T) w2) := hid (by simpa using hk2)
          clear hk2
          have HK3 : Hid (SortAt (encT tc) 3 w b o (P ++ mergeL le A B ++ T) w2) := hid (by
            have := HK2.out
            rw [HMG.out]
            obtain ⟨-, hzB2⟩ := HZ.out
            subst hzB2
            simpa [mergeL_nil, mergeL_right] using this)
          go_wp2
          all_goals
            go_end0
            exact ⟨rfl, by first | (with_reducible exact HK3.out) | (rw [← List.append_assoc]; with_reducible exact HK3.out)⟩
        · have f1 : (m : Int) ≤ (i : Int) := by have := LA.out; have := LS.out; omega
          have f2 : (m : Int) < (f : Int) := by have := LA.out; have := LS.out; omega
          have f3 : (a : Int) < (i : Int) := by have := LA.out; have := LS.out; omega
          have f4 : (i : Int) < (d : Int) := by have := LA.out; have := LS.out; omega
          have f5 : (f : Int) ≤ (d : Int) := by have := LA.out; have := LS.out; omega
          have f6 : (f : Int) < (e : Int) := by have := LA.out; have := LS.out; omega
          have hzA2 : A2 = [] := List.length_eq_zero_iff.1 (by omega)
          have HZ := hid (And.intro (rfl : 0 = 0) hzA2)
          clear hzA2
          have HNN := hid (And.intro n1 (And.intro n2 (And.intro n3 n4)))
          clear n1 n2 n3 n4
          have HK1 : Hid (SortAt (encT tc) 3 w b o (P ++ A1 ++ B1 ++ A2 ++ B2 ++ T) wr) := hid (by
            have := HK0.out
            obtain ⟨-, hzA2⟩ := HZ.out
            subst hzA2
            simpa using this)
          have C2 := hid (HIH.out P A1 B1 (A2 ++ B2 ++ T) _ wr l a i d (by have := HNN.out; have := HSZ.out; omega) HNN.out.1 HNN.out.2.2.1 HSA.out.1 HSA.out.2.2.1 (by simp) (by rw [HLN.out]; simp; omega) LP.out LS.out.1 (by have := LS.out; have := LA.out; omega) HK1.out hcap hcap2)
          go_wp2_with fail
          with_reducible refine C2.out.mono ?_
          rintro r w2 ⟨rfl, hk2⟩
          have HK2 : Hid (SortAt (encT tc) 3 w b o (P ++ mergeL le A1 B1 ++ A2 ++ B2 ++ T) w2) := hid (by simpa using hk2)
          clear hk2
          have HK3 : Hid (SortAt (encT tc) 3 w b o (P ++ mergeL le A B ++ T) w2) := hid (by
            have := HK2.out
            rw [HMG.out]
            obtain ⟨-, hzA2⟩ := HZ.out
            subst hzA2
            simpa [mergeL_nil, mergeL_right] using this)
          go_wp2
          all_goals
            go_end0
            exact ⟨rfl, by first | (with_reducible exact HK3.out) | (rw [← List.append_assoc]; with_reducible exact HK3.out)⟩
        · have f1 : (i : Int) < (m : Int) := by have := LA.out; have := LS.out; omega
          have f2 : (f : Int) ≤ (m : Int) := by have := LA.out; have := LS.out; omega
          have f3 : (a : Int) < (i : Int) := by have := LA.out; have := LS.out; omega
          have f4 : (d : Int) ≤ (i : Int) := by have := LA.out; have := LS.out; omega
          have f5 : (d : Int) < (f : Int) := by have := LA.out; have := LS.out; omega
          have f6 : (f : Int) < (e : Int) := by have := LA.out; have := LS.out; omega
          have hzB1 : B1 = [] := List.length_eq_zero_iff.1 (by omega)
          have HZ := hid (And.intro (rfl : 0 = 0) hzB1)
          clear hzB1
          have HNN := hid (And.intro n1 (And.intro n2 (And.intro n3 n4)))
          clear n1 n2 n3 n4
          have HK1 : Hid (SortAt (encT tc) 3 w b o (P ++ A1 ++ B1 ++ A2 ++ B2 ++ T) wr) := hid (by
            have := HK0.out
            obtain ⟨-, hzB1⟩ := HZ.out
            subst hzB1
            simpa using this)
          have HK2 : Hid (SortAt (encT tc) 3 w b o (P ++ mergeL le A1 B1 ++ A2 ++ B2 ++ T) wr) := hid (by
            have := HK1.out
            obtain ⟨-, hzB1⟩ := HZ.out
            subst hzB1
            simpa [mergeL_nil, mergeL_right] using this)
          have C3 := hid (HIH.out (P ++ mergeL le A1 B1) A2 B2 T _ wr l d f e (by have := HNN.out; have := HSZ.out; omega) HNN.out.2.1 HNN.out.2.2.2 HSA.out.2.1 HSA.out.2.2.2 (by simp) (by rw [HLN.out]; simp; omega) (by have := LS.out; have := LA.out; have := LP.out; simp; omega) (by have := LS.out; have := LA.out; omega) (by have := LS.out; have := LA.out; omega) HK2.out hcap hcap2)
          go_wp2_with fail
          with_reducible refine C3.out.mono ?_
          rintro r w3 ⟨rfl, hk3⟩
          have HK3 : Hid (SortAt (encT tc) 3 w b o (P ++ mergeL le A B ++ T) w3) := hid (by rw [HMG.out]; simpa using hk3)
          clear hk3
          go_wp2
          all_goals
            go_end0
            exact ⟨rfl, by first | (with_reducible exact HK3.out) | (rw [← List.append_assoc]; with_reducible exact HK3.out)⟩
        · have f1 : (i : Int) < (m : Int) := by have := LA.out; have := LS.out; omega
          have f2 : (f : Int) ≤ (m : Int) := by have := LA.out; have := LS.out; omega
          have f3 : (a : Int) < (i : Int) := by have := LA.out; have := LS.out; omega
          have f4 : (d : Int) ≤ (i : Int) := by have := LA.out; have := LS.out; omega
          have f5 : (d : Int) < (f : Int) := by have := LA.out; have := LS.out; omega
          have f6 : (e : Int) ≤ (f : Int) := by have := LA.out; have := LS.out; omega
          have hzB1 : B1 = [] := List.length_eq_zero_iff.1 (by omega)
          have hzB2 : B2 = [] := List.length_eq_zero_iff.1 (by omega)
          have HZ := hid (And.intro (rfl : 0 = 0) (And.intro hzB1 hzB2))
          clear hzB1
          clear hzB2
          have HNN := hid (And.intro n1 (And.intro n2 (And.intro n3 n4)))
          clear n1 n2 n3 n4
          have HK1 : Hid (SortAt (encT tc) 3 w b o (P ++ A1 ++ B1 ++ A2 ++ B2 ++ T) wr) := hid (by
            have := HK0.out
            obtain ⟨-, hzB1, hzB2⟩ := HZ.out
            subst hzB1 hzB2
            simpa using this)
          have HK2 : Hid (SortAt (encT tc) 3 w b o (P ++ mergeL le A1 B1 ++ A2 ++ B2 ++ T) wr) := hid (by
            have := HK1.out
            obtain ⟨-, hzB1, hzB2⟩ := HZ.out
            subst hzB1 hzB2
            simpa [mergeL_nil, mergeL_right] using this)
          have HK3 : Hid (SortAt (encT tc) 3 w b o (P ++ mergeL le A B ++ T) wr) := hid (by
            have := HK2.out
            rw [HMG.out]
            obtain ⟨-, hzB1, hzB2⟩ := HZ.out
            subst hzB1 hzB2
            simpa [mergeL_nil, mergeL_right] using this)
          go_wp2
          all_goals
            go_end0
            exact ⟨rfl, by first | (with_reducible exact HK3.out) | (rw [← List.append_assoc]; with_reducible exact HK3.out)⟩
        · have f1 : (m : Int) ≤ (i : Int) := by have := LA.out; have := LS.out; omega
          have f2 : (f : Int) ≤ (m : Int) := by have := LA.out; have := LS.out; omega
          have f3 : (a : Int) < (i : Int) := by have := LA.out; have := LS.out; omega
          have f4 : (d : Int) ≤ (i : Int) := by have := LA.out; have := LS.out; omega
          have f5 : (f : Int) ≤ (d : Int) := by have := LA.out; have := LS.out; omega
          have f6 : (f : Int) < (e : Int) := by have := LA.out; have := LS.out; omega
          have hzA2 : A2 = [] := List.length_eq_zero_iff.1 (by omega)
          have hzB1 : B1 = [] := List.length_eq_zero_iff.1 (by omega)
          have HZ := hid (And.intro (rfl : 0 = 0) (And.intro hzA2 hzB1))
          clear hzA2
          clear hzB1
          have HNN := hid (And.intro n1 (And.intro n2 (And.intro n3 n4)))
          clear n1 n2 n3 n4
          have HK1 : Hid (SortAt (encT tc) 3 w b o (P ++ A1 ++ B1 ++ A2 ++ B2 ++ T) wr) := hid (by
            have := HK0.out
            obtain ⟨-, hzA2, hzB1⟩ := HZ.out
            subst hzA2 hzB1
            simpa using this)
          have HK2 : Hid (SortAt (encT tc) 3 w b o (P ++ mergeL le A1 B1 ++ A2 ++ B2 ++ T) wr) := hid (by
            have := HK1.out
            obtain ⟨-, hzA2, hzB1⟩ := HZ.out
            subst hzA2 hzB1
            simpa [mergeL_nil, mergeL_right] using this)
          have HK3 : Hid (SortAt (encT tc) 3 w b o (P ++ mergeL le A B ++ T) wr) := hid (by
            have := HK2.out
            rw [HMG.out]
            obtain ⟨-, hzA2, hzB1⟩ := HZ.out
            subst hzA2 hzB1
            simpa [mergeL_nil, mergeL_right] using this)
          go_wp2
          all_goals
            go_end0
            exact ⟨rfl, by first | (with_reducible exact HK3.out) | (rw [← List.append_assoc]; with_reducible exact HK3.out)⟩
        · have f1 : (i : Int) < (m : Int) := by have := LA.out; have := LS.out; omega
          have f2 : (m : Int) < (f : Int) := by have := LA.out; have := LS.out; omega
          have f3 : (i : Int) ≤ (a : Int) := by have := LA.out; have := LS.out; omega
          have f4 : (i : Int) < (d : Int) := by have := LA.out; have := LS.out; omega
          have f5 : (d : Int) < (f : Int) := by have := LA.out; have := LS.out; omega
          have f6 : (f : Int) < (e : Int) := by have := LA.out; have := LS.out; omega
          have hzA1 : A1 = [] := List.length_eq_zero_iff.1 (by omega)
          have HZ := hid (And.intro (rfl : 0 = 0) hzA1)
          clear hzA1
          have HN1 := hid (And.intro n2 n3)
          have HNN := hid (And.intro n1 (And.intro n2 (And.intro n3 n4)))
          clear n1 n2 n3 n4
          have C1 := hid (rotate_t (tc := tc) (cap := cap) (l := l) (za := (i : Int)) (zm := (m : Int)) (zb := (f : Int)) (cv := .func (.func 134) #[] #[]) (P ++ A1) A2 B1 (B2 ++ T) wr (by simp) (by rw [HLN.out]; simp; omega) (by have := LS.out; have := LP.out; simp; omega) (by have := LS.out; have := LP.out; have := LA.out; simp; omega) (by have := LS.out; have := LP.out; have := LA.out; simp; omega) HK0.out (by intro hn; have := HNN.out; rw [hn] at this; simp at this) (by intro hn; have := HNN.out; rw [hn] at this; simp at this) hcap hcap2)
          go_wp2_with fail
          with_reducible refine C1.out.mono ?_
          rintro r w1 ⟨rfl, hk1⟩
          have HK1 : Hid (SortAt (encT tc) 3 w b o (P ++ A1 ++ B1 ++ A2 ++ B2 ++ T) w1) := hid (by simpa using hk1)
          clear hk1
          have HK2 : Hid (SortAt (encT tc) 3 w b o (P ++ mergeL le A1 B1 ++ A2 ++ B2 ++ T) w1) := hid (by
            have := HK1.out
            obtain ⟨-, hzA1⟩ := HZ.out
            subst hzA1
            simpa [mergeL_nil, mergeL_right] using this)
          have C3 := hid (HIH.out (P ++ mergeL le A1 B1) A2 B2 T _ w1 l d f e (by have := HNN.out; have := HSZ.out; omega) HNN.out.2.1 HNN.out.2.2.2 HSA.out.2.1 HSA.out.2.2.2 (by simp) (by rw [HLN.out]; simp; omega) (by have := LS.out; have := LA.out; have := LP.out; simp; omega) (by have := LS.out; have := LA.out; omega) (by have := LS.out; have := LA.out; omega) HK2.out hcap hcap2)
          go_wp2_with fail
          with_reducible refine C3.out.mono ?_
          rintro r w3 ⟨rfl, hk3⟩
          have HK3 : Hid (SortAt (encT tc) 3 w b o (P ++ mergeL le A B ++ T) w3) := hid (by rw [HMG.out]; simpa using hk3)
          clear hk3
          go_wp2
          all_goals
            go_end0
            exact ⟨rfl, by first | (with_reducible exact HK3.out) | (rw [← List.append_assoc]; with_reducible exact HK3.out)⟩
        · have f1 : (i : Int) < (m : Int) := by have := LA.out; have := LS.out; omega
          have f2 : (m : Int) < (f : Int) := by have := LA.out; have := LS.out; omega
          have f3 : (i : Int) ≤ (a : Int) := by have := LA.out; have := LS.out; omega
          have f4 : (i : Int) < (d : Int) := by have := LA.out; have := LS.out; omega
          have f5 : (d : Int) < (f : Int) := by have := LA.out; have := LS.out; omega
          have f6 : (e : Int) ≤ (f : Int) := by have := LA.out; have := LS.out; omega
          have hzA1 : A1 = [] := List.length_eq_zero_iff.1 (by omega)
          have hzB2 : B2 = [] := List.length_eq_zero_iff.1 (by omega)
          have HZ := hid (And.intro (rfl : 0 = 0) (And.intro hzA1 hzB2))
          clear hzA1
          clear hzB2
          have HN1 := hid (And.intro n2 n3)
          have HNN := hid (And.intro n1 (And.intro n2 (And.intro n3 n4)))
          clear n1 n2 n3 n4
          have C1 := hid (rotate_t (tc := tc) (cap := cap) (l := l) (za := (i : Int)) (zm := (m : Int)) (zb := (f : Int)) (cv := .func (.func 134) #[] #[]) (P ++ A1) A2 B1 (B2 ++ T) wr (by simp) (by rw [HLN.out]; simp; omega) (by have := LS.out; have := LP.out; simp; omega) (by have := LS.out; have := LP.out; have := LA.out; simp; omega) (by have := LS.out; have := LP.out; have := LA.out; simp; omega) HK0.out (by intro hn; have := HNN.out; rw [hn] at this; simp at this) (by intro hn; have := HNN.out; rw [hn] at this; simp at this) hcap hcap2)
          go_wp2_with fail
          with_reducible refine C1.out.mono ?_
          rintro r w1 ⟨rfl, hk1⟩
          have HK1 : Hid (SortAt (encT tc) 3 w b o (P ++ A1 ++ B1 ++ A2 ++ B2 ++ T) w1) := hid (by simpa using hk1)
          clear hk1
          have HK2 : Hid (SortAt (encT tc) 3 w b o (P ++ mergeL le A1 B1 ++ A2 ++ B2 ++ T) w1) := hid (by
            have := HK1.out
            obtain ⟨-, hzA1, hzB2⟩ := HZ.out
            subst hzA1 hzB2
            simpa [mergeL_nil, mergeL_right] using this)
          have HK3 : Hid (SortAt (encT tc) 3 w b o (P ++ mergeL le A B ++ T) w1) := hid (by
            have := HK2.out
            rw [HMG.out]
            obtain ⟨-, hzA1, hzB2⟩ := HZ.out
            subst hzA1 hzB2
            simpa [mergeL_nil, mergeL_right] using this)
          go_wp2
          all_goals
            go_end0
            exact ⟨rfl, by first | (with_reducible exact HK3.out) | (rw [← List.append_assoc]; with_reducible exact HK3.out)⟩
        · have f1 : (m : Int) ≤ (i : Int) := by have := LA.out; have := LS.out; omega
          have f2 : (m : Int) < (f : Int) := by have := LA.out; have := LS.out; omega
          have f3 : (i : Int) ≤ (a : Int) := by have := LA.out; have := LS.out; omega
          have f4 : (i : Int) < (d : Int) := by have := LA.out; have := LS.out; omega
          have f5 : (f : Int) ≤ (d : Int) := by have := LA.out; have := LS.out; omega
          have f6 : (f : Int) < (e : Int) := by have := LA.out; have := LS.out; omega
          have hzA1 : A1 = [] := List.length_eq_zero_iff.1 (by omega)
          have hzA2 : A2 = [] := List.length_eq_zero_iff.1 (by omega)
          have HZ := hid (And.intro (rfl : 0 = 0) (And.intro hzA1 hzA2))
          clear hzA1
          clear hzA2
          have HNN := hid (And.intro n1 (And.intro n2 (And.intro n3 n4)))
          clear n1 n2 n3 n4
          have HK1 : Hid (SortAt (encT tc) 3 w b o (P ++ A1 ++ B1 ++ A2 ++ B2 ++ T) wr) := hid (by
            have := HK0.out
            obtain ⟨-, hzA1, hzA2⟩ := HZ.out
            subst hzA1 hzA2
            simpa using this)
          have HK2 : Hid (SortAt (encT tc) 3 w b o (P ++ mergeL le A1 B1 ++ A2 ++ B2 ++ T) wr) := hid (by
            have := HK1.out
            obtain ⟨-, hzA1, hzA2⟩ := HZ.out
            subst hzA1 hzA2
            simpa [mergeL_nil, mergeL_right] using this)
          have HK3 : Hid (SortAt (encT tc) 3 w b o (P ++ mergeL le A B ++ T) wr) := hid (by
            have := HK2.out
            rw [HMG.out]
            obtain ⟨-, hzA1, hzA2⟩ := HZ.out
            subst hzA1 hzA2
            simpa [mergeL_nil, mergeL_right] using this)
          go_wp2
          all_goals
            go_end0
            exact ⟨rfl, by first | (with_reducible exact HK3.out) | (rw [← List.append_assoc]; with_reducible exact HK3.out)⟩

theorem sym_merge_t (hc : CmpT 134 tc cf w b) (hcl : CmpLe cf le) {cap : Nat} : ∀ (N : Nat) (P A B T cur : List α) (W : World) (l a m e : Nat), A.length + B.length < N → 0 < A.length → 0 < B.length → SortedL le A → SortedL le B → cur = P ++ A ++ B ++ T → l = cur.length → a = P.length → m = a + A.length → e = m + B.length → SortAt (encT tc) 3 w b o cur W → l ≤ cap → l ≤ 1000000000000 →
      Calls Tryz.prog 192 #[.slice (some ⟨b, o, none⟩) l cap, .int .i64 a, .int .i64 m, .int .i64 e, .func (.func 134) #[] #[]] W
        fun r w' => r = .returned (.tuple #[]) ∧ SortAt (encT tc) 3 w b o (P ++ mergeL le A B ++ T) w' := by
  intro N
  induction N with
  | zero => intro P A B T cur W l a m e hN; omega
  | succ N ih =>
    intro P A B T cur W l a m e hN hA0 hB0 hA hB hcur hl ha hm he h hcap hcap2
    match A, hA0, hA, hcur, hm, hN with
    | [x], _, hA, hcur, hm, hN => exact sym_one_t P B T x cur W hc hcl (by rw [hcur]; simp) hl ha (by simpa using hm) (by rw [he, hm]; simp) h hB hcap hcap2
    | x :: x' :: A, _, hA, hcur, hm, hN =>
      match B, hB0, hB, hcur, he, hN with
      | [y], _, hB, hcur, he, hN => exact sym_last_t P (x :: x' :: A) T y cur W hc hcl (by rw [hcur]; simp) hl ha hm (by simpa using he) (by simp) h hA hcap hcap2
      | y :: y' :: B, _, hB, hcur, he, hN =>
        exact sym_step_t P (x :: x' :: A) (y :: y' :: B) T cur W hc hcl hcur hl ha hm he (by simp) (by simp) (fun P A' B' T cur W l a m e hlt => ih P A' B' T cur W l a m e (by omega)) h hA hB hcap hcap2
end
end Go.Proofs.YtcpfeepnfodifaaGreat

namespace Go.Proofs.YtcpfeepnfodifaaGreat
open Go.RowKit Go.Sort

section
variable {α : Type} {le : α → α → Bool}
/-- blocks of a size, each sorted, the last one maybe shorter -/
inductive Blk (le : α → α → Bool) (s : Nat) : List α → List α → Prop where
  | nil : Blk le s [] []
  | last (X : List α) (h0 : 0 < X.length) (h : X.length ≤ s) : Blk le s (sortL le X) X
  | cons (X R O : List α) (h : X.length = s) (t : Blk le s R O) : Blk le s (sortL le X ++ R) (X ++ O)
/-- full blocks -/
inductive Full (le : α → α → Bool) (s : Nat) : List α → List α → Prop where
  | nil : Full le s [] []
  | cons (X R O : List α) (h : X.length = s) (t : Full le s R O) : Full le s (sortL le X ++ R) (X ++ O)
theorem Blk.len {s : Nat} {R O : List α} (h : Blk le s R O) : R.length = O.length := by
  induction h with
  | nil => rfl
  | last X _ _ => exact sortL_len X
  | cons X R O h t ih => simp [sortL_len, ih]
theorem Full.len {s : Nat} {R O : List α} (h : Full le s R O) : R.length = O.length := by
  induction h with
  | nil => rfl
  | cons X R O h t ih => simp [sortL_len, ih]
theorem Full.snoc {s : Nat} {R O X : List α} (h : Full le s R O) (hX : X.length = s) : Full le s (R ++ sortL le X) (O ++ X) := by
  induction h with
  | nil =>
    have := Full.cons (le := le) X [] [] hX Full.nil
    simpa using this
  | cons Y R O h t ih =>
    have := Full.cons Y _ _ h ih
    simpa using this
theorem Full.blk {s : Nat} {R O R2 O2 : List α} (h : Full le s R O) (h2 : Blk le s R2 O2) : Blk le s (R ++ R2) (O ++ O2) := by
  induction h with
  | nil => exact h2
  | cons Y R O h t ih =>
    have := Blk.cons Y _ _ h ih
    simpa using this
theorem Blk.two {s : Nat} {R O : List α} (h : Blk le s R O) (hs : 0 < s) (h2 : s + s ≤ R.length) : ∃ X Y R' O', R = sortL le X ++ (sortL le Y ++ R') ∧ O = X ++ (Y ++ O') ∧ X.length = s ∧ Y.length = s ∧ Blk le s R' O' := by
  cases h with
  | nil => simp at h2; omega
  | last X h0 h => rw [sortL_len] at h2; omega
  | cons X R O h t =>
    simp only [List.length_append, sortL_len] at h2
    cases t with
    | nil => simp at h2; omega
    | last Y h0 h' =>
      rw [sortL_len] at h2
      exact ⟨X, O, [], [], by simp, by simp, h, by omega, .nil⟩
    | cons Y R O h' t => exact ⟨X, Y, R, O, rfl, rfl, h, h', t⟩
theorem Blk.part {s : Nat} {R O : List α} (h : Blk le s R O) (_hs : 0 < s) (h1 : s < R.length) (h2 : R.length < s + s) : ∃ X Y, R = sortL le X ++ sortL le Y ∧ O = X ++ Y ∧ X.length = s ∧ 0 < Y.length := by
  cases h with
  | nil => simp at h1
  | last X h0 h => rw [sortL_len] at h1; omega
  | cons X R O h t =>
    simp only [List.length_append, sortL_len] at h1 h2
    cases t with
    | nil => simp at h1; omega
    | last Y h0 h' => exact ⟨X, O, rfl, rfl, h, h0⟩
    | cons Y R O h' t => simp [sortL_len] at h2; omega
theorem Blk.one {s : Nat} {R O : List α} (h : Blk le s R O) (h1 : R.length ≤ s) : R = sortL le O := by
  cases h with
  | nil => rfl
  | last X h0 h => rfl
  | cons X R O h t =>
    simp only [List.length_append, sortL_len] at h1
    obtain rfl : R = [] := List.length_eq_zero_iff.1 (by omega)
    have := t.len
    obtain rfl : O = [] := List.length_eq_zero_iff.1 (by simpa using this.symm)
    simp
theorem Blk.of_sort {s : Nat} {O : List α} (h : O.length ≤ s) : Blk le s (sortL le O) O := by
  rcases Nat.eq_zero_or_pos O.length with h0 | h0
  · obtain rfl := List.length_eq_zero_iff.1 h0
    exact .nil
  · exact .last O h0 h
end

section
variable {α : Type} [Inhabited α] {tc : α → TCell} {w : World} {b o : Nat} {cf : α → α → Int} {le : α → α → Bool}

theorem insertion_t' {cap l : Nat} {za zb : Int} {cur : List α} (P X T : List α) (W : World) (hc : CmpT 134 tc cf w b) (hcl : CmpLe cf le) (hcur : cur = P ++ X ++ T) (hl : l = cur.length) (hza : za = P.length) (hzb : zb = P.length + X.length) (h : SortAt (encT tc) 3 w b o cur W) (hcap : l ≤ cap) (hcap2 : l ≤ 1000000000000) :
    Calls Tryz.prog 191 #[.slice (some ⟨b, o, none⟩) l cap, .int .i64 za, .int .i64 zb, .func (.func 134) #[] #[]] W
      fun e w' => e = .returned (.tuple #[]) ∧ SortAt (encT tc) 3 w b o (P ++ sortL le X ++ T) w' := by
  subst hcur hl hza
  obtain rfl : zb = ((P.length + X.length : Nat) : Int) := by rw [hzb]; omega
  exact insertion_t cap P X T W hc hcl h hcap hcap2
theorem sym_merge_t' (hc : CmpT 134 tc cf w b) (hcl : CmpLe cf le) {cap l : Nat} (hcap2 : l ≤ 1000000000000) {za zm ze : Int} {cur : List α} (P A B T : List α) (W : World) (hA0 : 0 < A.length) (hB0 : 0 < B.length) (hA : SortedL le A) (hB : SortedL le B) (hcur : cur = P ++ A ++ B ++ T) (hl : l = cur.length) (hza : za = P.length) (hzm : zm = P.length + A.length) (hze : ze = P.length + A.length + B.length)
    (h : SortAt (encT tc) 3 w b o cur W) (hcap : l ≤ cap) :
      Calls Tryz.prog 192 #[.slice (some ⟨b, o, none⟩) l cap, .int .i64 za, .int .i64 zm, .int .i64 ze, .func (.func 134) #[] #[]] W
        fun r w' => r = .returned (.tuple #[]) ∧ SortAt (encT tc) 3 w b o (P ++ mergeL le A B ++ T) w' := by
  subst hza
  obtain rfl : zm = ((P.length + A.length : Nat) : Int) := by rw [hzm]; omega
  obtain rfl : ze = ((P.length + A.length + B.length : Nat) : Int) := by rw [hze]; omega
  exact sym_merge_t hc hcl _ P A B T cur W l _ _ _ (Nat.lt_succ_self _) hA0 hB0 hA hB hcur hl rfl rfl rfl h hcap hcap2

set_option maxRecDepth 100000 in
set_option maxHeartbeats 8000000 in
theorem stable_t {cap n : Nat} (L : List α) (W : World) (hc : CmpT 134 tc cf w b) (hcl : CmpLe cf le) (hl : n = L.length) (h : SortAt (encT tc) 3 w b o L W) (hcap : n ≤ cap) (hcap2 : n ≤ 1000000000000) :
    Calls Tryz.prog 172 #[.slice (some ⟨b, o, none⟩) n cap, .int .i64 n, .func (.func 134) #[] #[]] W
      fun e w' => e = .returned (.tuple #[]) ∧ SortAt (encT tc) 3 w b o (sortL le L) w' := by
  have H := hid h
  have HC := hid hc
  have HL := hid hcl
  have HN := hid hl
  clear h hc hcl hl
  go_enter Tryz.func172, Tryz.ntmps172
  go_wp2
  go_loopw [7, 8] (fun va vb wr => ∃ (a c : Nat) (S O R : List α), va = .int .i64 a ∧ vb = .int .i64 c ∧ a ≤ n ∧ Hid (c = a + 20) ∧ c ≤ n + 20 ∧ Hid (a = O.length) ∧ Hid (L = O ++ R) ∧ Hid (Full le 20 S O) ∧ SortAt (encT tc) 3 w b o (S ++ R) wr) (fun va vb _ => n - (intOf va).toNat)
  case atStart => exact ⟨0, 20, [], [], L, rfl, rfl, by omega, rfl, by omega, rfl, rfl, .nil, H.out⟩
  case round =>
    obtain ⟨a, c, S, O, R, rfl, rfl, han, HCA, hcn, HA, HLL, HF, hs⟩ := hrel
    have HS := hid hs
    clear hs
    have hn : n = O.length + R.length := by have := HN.out; rw [HLL.out] at this; simpa using this
    have hcl : n = (S ++ R).length := by rw [hn]; simp [HF.out.len]
    have HCL := hid hcl
    have HNN := hid hn
    clear hn hcl
    by_cases hlt : c ≤ n
    · obtain ⟨X, R', hX, hX20⟩ : ∃ X R', R = X ++ R' ∧ X.length = 20 := ⟨R.take 20, R.drop 20, (List.take_append_drop _ _).symm, by have := HNN.out; have := HA.out; have := HCA.out; rw [List.length_take]; omega⟩
      subst hX
      have HX := hid hX20
      have C := hid (insertion_t' (cap := cap) (l := n) (za := (a : Int)) (zb := (c : Int)) S X R' wr HC.out HL.out (by simp) HCL.out (by rw [HF.out.len]; have := HA.out; omega) (by rw [HF.out.len]; have := HA.out; have := HCA.out; omega) HS.out hcap hcap2)
      clear hX20
      go_wp2_with fail
      with_reducible refine C.out.mono ?_
      rintro e w2 ⟨rfl, hs2⟩
      have HS2 := hid hs2
      clear hs2
      go_wp2
      go_roundw
      case rel =>
        refine ⟨c, c + 20, S ++ sortL le X, O ++ X, R', rfl, by go_num, hlt, rfl, by omega, ?_, ?_, ?_, ?_⟩
        · show _ = _; have := HA.out; have := HX.out; have := HCA.out; simp; omega
        · show _ = _; rw [HLL.out]; simp
        · exact HF.out.snoc HX.out
        · exact HS2.out
      case measure => have := HCA.out; simp only [intOf]; omega
    · have C := hid (insertion_t' (cap := cap) (l := n) (za := (a : Int)) (zb := (n : Int)) S R [] wr HC.out HL.out (by simp) HCL.out (by rw [HF.out.len]; have := HA.out; omega) (by rw [HF.out.len]; have := HNN.out; omega) HS.out hcap hcap2)
      go_wp2_with fail
      with_reducible refine C.out.mono ?_
      rintro e w2 ⟨rfl, hs2⟩
      have HS2 := hid hs2
      have HB : Hid (Blk le 20 (S ++ sortL le R) L) := hid (by
        rw [HLL.out]
        exact HF.out.blk (.of_sort (by have := HNN.out; have := HA.out; have := HCA.out; omega)))
      clear hs2
      go_wp2
      go_loopw [6, 7, 8, 9] (fun vs va vb vm wr => ∃ (s : Nat) (za zb : Int) (cur : List α), vs = .int .i64 s ∧ va = .int .i64 za ∧ vb = .int .i64 zb ∧ 20 ≤ s ∧ s ≤ n + n + 20 ∧ Hid (Blk le s cur L) ∧ SortAt (encT tc) 3 w b o cur wr) (fun vs _ _ _ _ => n - (intOf vs).toNat)
      case atStart => exact ⟨20, a, c, _, rfl, rfl, rfl, by omega, by omega, HB, by have := HS2.out; simpa using this⟩
      case round =>
        clear HB HS2 HS HF HLL HCL HNN HCA HA hlt hcn han
        obtain ⟨s, za, zb, cur, rfl, rfl, rfl, hs20, hsn, HB, hs⟩ := hrel
        have HS := hid hs
        clear hs
        by_cases hlt : s < n
        · have HCN : Hid (n = cur.length) := hid (by rw [HN.out, HB.out.len])
          go_wp2
          go_loopw [7, 8] (fun va vb wr => ∃ (a c : Nat) (S O R O2 : List α), va = .int .i64 a ∧ vb = .int .i64 c ∧ a ≤ n ∧ Hid (c = a + (s + s)) ∧ c ≤ n + s + s ∧ Hid (a = O.length) ∧ Hid (L = O ++ O2) ∧ Hid (Full le (s + s) S O) ∧ Hid (Blk le s R O2) ∧ SortAt (encT tc) 3 w b o (S ++ R) wr) (fun va vb _ => n - (intOf va).toNat)
          case atStart => exact ⟨0, s + s, [], [], cur, L, rfl, by congr 1; omega, by omega, by show _ = _; omega, by omega, rfl, rfl, .nil, HB, HS.out⟩
          case round =>
            clear HCN HS HB
            obtain ⟨a, c, S, O, R, O2, rfl, rfl, han, HCA, hcn, HA, HLL, HF, HB, hs⟩ := hrel
            have HS := hid hs
            clear hs
            have hn : n = O.length + O2.length := by have := HN.out; rw [HLL.out] at this; simpa using this
            have hcl : n = (S ++ R).length := by rw [hn]; simp [HF.out.len, HB.out.len]
            have HCL := hid hcl
            have HNN := hid hn
            clear hn hcl
            by_cases hlt : c ≤ n
            · obtain ⟨X, Y, R', O', hR, hO, hX, hY, hB⟩ := HB.out.two (by omega) (by rw [HB.out.len]; have := HNN.out; have := HA.out; have := HCA.out; omega)
              have HX := hid (And.intro hX hY)
              have HO := hid hO
              have HB2 := hid hB
              have C := hid (sym_merge_t' HC.out HL.out (cap := cap) (l := n) hcap2 (za := (a : Int)) (zm := (a : Int) + (s : Int)) (ze := (c : Int)) (cur := S ++ R) S (sortL le X) (sortL le Y) R' wr (by rw [sortL_len]; omega) (by rw [sortL_len]; omega) (sortL_sorted HL.out.total X) (sortL_sorted HL.out.total Y) (by rw [hR]; simp) HCL.out (by rw [HF.out.len]; have := HA.out; omega) (by rw [HF.out.len, sortL_len]; have := HA.out; omega) (by rw [HF.out.len, sortL_len, sortL_len]; have := HA.out; have := HCA.out; omega) HS.out hcap)
              clear hR hO hX hY hB
              go_wp2_with fail
              with_reducible refine C.out.mono ?_
              rintro e w2 ⟨rfl, hs2⟩
              have HS2 := hid hs2
              clear hs2
              go_wp2
              go_roundw
              case rel =>
                refine ⟨c, c + (s + s), S ++ sortL le (X ++ Y), O ++ (X ++ Y), R', O', rfl, by congr 1; omega, hlt, rfl, by omega, ?_, ?_, ?_, HB2, ?_⟩
                · show _ = _; have := HA.out; have := HX.out; have := HCA.out; simp; omega
                · show _ = _; rw [HLL.out, HO.out]; simp
                · exact HF.out.snoc (by have := HX.out; simp; omega)
                · rw [sortL_append HL.out.total]
                  exact HS2.out
              case measure => have := HCA.out; simp only [intOf]; omega
            · by_cases hm : a + s < n
              · obtain ⟨X, Y, hR, hO, hX, hY⟩ := HB.out.part (by omega) (by rw [HB.out.len]; have := HNN.out; have := HA.out; omega) (by rw [HB.out.len]; have := HNN.out; have := HA.out; have := HCA.out; omega)
                have C := hid (sym_merge_t' HC.out HL.out (cap := cap) (l := n) hcap2 (za := (a : Int)) (zm := (a : Int) + (s : Int)) (ze := (n : Int)) (cur := S ++ R) S (sortL le X) (sortL le Y) [] wr (by rw [sortL_len]; omega) (by rw [sortL_len]; omega) (sortL_sorted HL.out.total X) (sortL_sorted HL.out.total Y) (by rw [hR]; simp) HCL.out (by rw [HF.out.len]; have := HA.out; omega) (by rw [HF.out.len, sortL_len]; have := HA.out; omega) (by rw [HF.out.len, sortL_len, sortL_len]; have h1 := HNN.out; rw [hO] at h1; simp at h1; omega) HS.out hcap)
                have HBB : Hid (Blk le (s + s) (S ++ mergeL le (sortL le X) (sortL le Y)) L) := hid (by
                  rw [HLL.out, hO, ← sortL_append HL.out.total]
                  refine HF.out.blk (.of_sort ?_)
                  have h1 := HNN.out
                  have h2 := HA.out
                  have h3 := HCA.out
                  rw [hO] at h1
                  omega)
                clear hR hO hX hY
                have q1 : (a : Int) + (s : Int) < (n : Int) := by omega
                go_wp2_with fail
                with_reducible refine C.out.mono ?_
                rintro e w2 ⟨rfl, hs2⟩
                have HS2 := hid hs2
                clear hs2
                go_wp2
                go_roundw
                case rel => exact ⟨s + s, _, _, _, by congr 1; omega, rfl, rfl, by omega, by omega, HBB, by have := HS2.out; simpa using this⟩
                case measure => simp only [intOf]; omega
              · have HBB : Hid (Blk le (s + s) (S ++ R) L) := hid (by
                  rw [HB.out.one (by rw [HB.out.len]; have := HNN.out; have := HA.out; omega), HLL.out]
                  refine HF.out.blk (.of_sort ?_)
                  have h1 := HNN.out
                  have h2 := HA.out
                  omega)
                have q1 : (n : Int) ≤ (a : Int) + (s : Int) := by omega
                go_wp2
                go_roundw
                case rel => exact ⟨s + s, _, _, _, by congr 1; omega, rfl, rfl, by omega, by omega, HBB, HS.out⟩
                case measure => simp only [intOf]; omega
        · have HF : Hid (SortAt (encT tc) 3 w b o (sortL le L) wr) := hid (by
            have := HB.out.one (by rw [HB.out.len, ← HN.out]; omega)
            rw [← this]
            exact HS.out)
          go_wp2
          go_end0
          exact ⟨rfl, HF.out⟩

set_option maxRecDepth 100000 in
theorem sort_t {cap n : Nat} (L : List α) (W : World) (hc : CmpT 134 tc cf w b) (hcl : CmpLe cf le) (hl : n = L.length) (h : SortAt (encT tc) 3 w b o L W) (hcap : n ≤ cap) (hcap2 : n ≤ 1000000000000) :
    Calls Tryz.prog 133 #[.slice (some ⟨b, o, none⟩) n cap, .func (.func 134) #[] #[]] W
      fun e w' => e = .returned (.tuple #[]) ∧ SortAt (encT tc) 3 w b o (sortL le L) w' := by
  have C := hid (stable_t L W hc hcl hl h hcap hcap2)
  clear hc hcl hl h
  go_enter Tryz.func133, Tryz.ntmps133
  go_wp2_with fail
  with_reducible refine C.out.mono ?_
  rintro e w2 ⟨rfl, hs2⟩
  have HS2 := hid hs2
  clear hs2
  go_wp2
  go_end0
  exact ⟨rfl, HS2.out⟩
end
end Go.Proofs.YtcpfeepnfodifaaGreat

namespace Go.Proofs.YtcpfeepnfodifaaGreat
open Go.RowKit Go.Sort

theorem Terms.src {S : Nat → Prop} {w : World} {A : Option Addr} {n cap : Nat} {ts : List RTerm} (h : Terms S w (.slice A n cap) ts) : n = ts.length ∧ ∃ xs, CellsT S w xs ts ∧ SrcAt w A n 3 xs := by
  obtain ⟨b, off, ⟨a', cap', h1, h2, h3, h4, h5⟩, hc⟩ := h
  obtain ⟨rfl, rfl, rfl⟩ : A = a' ∧ n = ts.length ∧ cap = cap' := by simpa using h1
  refine ⟨rfl, ?_⟩
  clear h1 h2 h3 h5
  have main : ∀ (us : List RTerm) (k : Nat), (∀ j t, us[j]? = some t → ∃ vm vo, w.cell? ⟨b, off + (k + j) * 3, none⟩ = some (.bool t.c.neg) ∧ w.cell? ⟨b, off + (k + j) * 3 + 1, none⟩ = some vm ∧ w.cell? ⟨b, off + (k + j) * 3 + 2, none⟩ = some vo ∧ U32s S w vm t.c.mag ∧ Pows S w vo t.m) →
      ∃ xs, CellsT S w xs us ∧ ∀ j u, xs[j]? = some u → w.cell? ⟨b, off + k * 3 + j, none⟩ = some u := by
    intro us
    induction us with
    | nil => intro k _; exact ⟨[], rfl, fun j u hu => by simp at hu⟩
    | cons t r ih =>
      intro k hk
      obtain ⟨vm, vo, g1, g2, g3, g4, g5⟩ := hk 0 t rfl
      obtain ⟨xs, hx1, hx2⟩ := ih (k + 1) (fun j u hu => by
        have := hk (j + 1) u (by simpa using hu)
        rw [show k + (j + 1) = k + 1 + j by omega] at this
        exact this)
      refine ⟨.bool t.c.neg :: vm :: vo :: xs, ⟨vm, vo, xs, rfl, g4, g5, hx1⟩, fun j u hu => ?_⟩
      rw [Nat.add_zero] at g1 g2 g3
      match j, hu with
      | 0, hu => obtain rfl : _ = u := by simpa using hu
                 exact g1
      | 1, hu => obtain rfl : _ = u := by simpa using hu
                 exact g2
      | 2, hu => obtain rfl : _ = u := by simpa using hu
                 exact g3
      | j + 3, hu =>
        have := hx2 j u (by simpa using hu)
        rw [show off + k * 3 + (j + 3) = off + (k + 1) * 3 + j by omega]
        exact this
  obtain ⟨xs, hx1, hx2⟩ := main ts 0 (fun j t hj => by rw [Nat.zero_add]; exact hc j t hj)
  refine ⟨xs, hx1, by rw [hx1.length], hx1.one, fun h0 => ⟨_, h4 h0, fun j u hu => ?_⟩⟩
  rw [add_off]
  have := hx2 j u hu
  simpa using this

theorem Terms.of_none {S : Nat → Prop} {w : World} {n cap : Nat} {m : List RTerm} (h : Terms S w (.slice Option.none n cap) m) : m = [] := by
  obtain ⟨b, off, ⟨a', cap', h1, h2, h3, h4, h5⟩, hc⟩ := h
  obtain ⟨rfl, rfl, rfl⟩ : Option.none = a' ∧ n = m.length ∧ cap = cap' := by simpa using h1
  rcases Nat.eq_zero_or_pos m.length with h0 | h0
  · exact List.length_eq_zero_iff.1 h0
  · cases h4 h0
theorem Terms.onS {S : Nat → Prop} {w W : World} {v : Value} {z : List RTerm} (h : Terms S w v z) (hx : Ext w W) (hS : ∀ k, S k → k < w.heap.size) : Terms S W v z := h.ext hx hS

set_option maxRecDepth 100000 in
set_option maxHeartbeats 1000000 in
theorem clone_terms {S : Nat → Prop} (v : Value) (ts : List RTerm) (w : World) (h : Terms S w v ts) (hS : ∀ k, S k → k < w.heap.size) (hr : ts.length ≤ 1000000000000) :
    Calls Tryz.prog 132 #[v] w fun e w' => ∃ v' xs, e = .returned v' ∧ w'.ownsRow w.heap.size 104 3 v' ts.length xs ∧ CellsT S w' xs ts ∧ Ext w w' := by
  obtain ⟨i0, hi, hz0, hz1, hz2⟩ := info_parts Tryz.infoTerm
  have H := hid h
  obtain ⟨A, c, rfl⟩ := h.form
  clear h
  have hnil := fun (w : World) => Lib.run_eql_slice_nil (P := Tryz.prog) w 22 104 A ts.length c 0 0 Tryz.underlying22
  cases A with
  | none =>
    have HM := hid H.out.of_none
    go_enter Tryz.func132, Tryz.ntmps132
    go_wp2
    all_goals
      go_ret
      have e := HM.out
      subst e
      exact ⟨_, [], rfl, World.ownsRow_nil _ _ _ _, rfl, Ext.refl _⟩
  | some ad =>
    have hx0 : Ext w (w.alloc (.cells #[] 104)) := Ext.alloc (Ext.refl w) _
    obtain ⟨-, xs, hc, hs⟩ := (H.out.ext hx0 hS).src
    have HS := hid hs
    have HCC := hid hc
    have HO := hid (World.ownsRow_made (base := w.heap.size) (e := 104) (size := 3) w #[] 0 (Nat.le_refl _) (by unfold maxLen; omega) (by simp))
    have HR := hid hr
    clear hx0 hc hs
    go_enter Tryz.func132, Tryz.ntmps132
    go_wp2_with (at_builtin; refine wpList_append_src _ rfl (.tmp 5) (.tmp 6) 22 rfl w.heap.size 104 i0 (.agg #[.bool false, .slice none 0 0, .slice none 0 0]) 3 56 Tryz.underlying22 hi hz0 hz1 hz2 rfl (by decide) (.slice (some ⟨w.heap.size, 0, none⟩) 0 0) 0 [] rfl HO.out (some ad) ts.length c xs rfl HS.out (by have := HR.out; unfold maxLen; omega) (by have := HR.out; omega) (by simp) ?_; intro v1 w1 hown hg _; have HW := hid hown; have HG := hid hg; clear hown hg)
    go_ret
    have hx : Ext w w1 := by
      refine ext_grown (Ext.alloc (Ext.refl w) _) HG.out (fun k hk => ?_)
      have e : w.heap.size = k := by simpa [Value.ownBlock] using hk
      omega
    refine ⟨v1, xs, rfl, by simpa using HW.out, ?_, hx⟩
    exact HCC.out.to (Kept.grown HG.out (fun k hk => ⟨by have := hS k hk; simp; omega, fun e => by have := hS k hk; simp [Value.ownBlock] at e; omega⟩)) (fun _ h => h)

/-- a term whose parts lie in a world -/
structure TermIn (S : Nat → Prop) (w : World) where
  t : RTerm
  c : TCell
  neg : c.neg = t.c.neg
  hm : U32s S w (.slice c.ma c.mn c.mc) t.c.mag
  ho : Pows S w (.slice c.oa c.on c.oc) t.m
  may : mayM t.m = true
instance (S : Nat → Prop) (w : World) : Inhabited (TermIn S w) := ⟨⟨⟨⟨false, []⟩, []⟩, ⟨false, none, 0, 0, none, 0, 0⟩, rfl, U32s.nilv _ _ _ _ (by decide), Pows.empty _ _ _, rfl⟩⟩

section
variable {S : Nat → Prop} {w : World}
theorem cells_terms {xs : List Value} {ts : List RTerm} (h : CellsT S w xs ts) (hm : ∀ t ∈ ts, mayM t.m = true) : ∃ d : List (TermIn S w), d.map (·.t) = ts ∧ xs = (d.map (encT (fun x : TermIn S w => x.c))).flatten := by
  induction ts generalizing xs with
  | nil =>
    have e : xs = [] := h
    subst e
    exact ⟨[], rfl, rfl⟩
  | cons t r ih =>
    obtain ⟨vd, vo, ys, rfl, h1, h2, h3⟩ := h
    obtain ⟨d, hd1, hd2⟩ := ih h3 (fun u hu => hm u (by simp [hu]))
    obtain ⟨a1, c1, rfl⟩ := h1.form
    obtain ⟨a2, c2, rfl⟩ := h2.form
    exact ⟨⟨t, ⟨t.c.neg, a1, _, c1, a2, _, c2⟩, rfl, h1, h2, hm t (by simp)⟩ :: d, by simp [hd1], by simp [hd2]⟩
theorem flat_at {α : Type} {enc : α → List Value} {d : List α} (hk : ∀ x, (enc x).length = 3) {j c : Nat} {x : α} (hj : d[j]? = some x) (hc : c < 3) : (d.map enc).flatten[j * 3 + c]? = (enc x)[c]? := by
  induction d generalizing j with
  | nil => simp at hj
  | cons y r ih =>
    simp only [List.map_cons, List.flatten_cons]
    cases j with
    | zero =>
      obtain rfl : y = x := by simpa using hj
      rw [List.getElem?_append_left (by rw [hk]; omega)]
      congr 1
      omega
    | succ j =>
      rw [List.getElem?_append_right (by rw [hk]; omega), hk]
      rw [show (j + 1) * 3 + c - 3 = j * 3 + c by omega]
      exact ih (by simpa using hj)
theorem own_sortAt {base g n cap : Nat} {e : TypeId} {xs : List Value} {d : List (TermIn S w)} (h : w.ownsRow base e 3 (.slice (some ⟨g, 0, none⟩) n cap) n xs) (hx : xs = (d.map (encT (fun x : TermIn S w => x.c))).flatten) (hn : n = d.length) : SortAt (encT (fun x : TermIn S w => x.c)) 3 w g 0 d w ∧ n ≤ cap ∧ cap ≤ maxLen := by
  obtain ⟨hl, hh⟩ := h
  rcases hh with ⟨h1, _⟩ | ⟨g', cap', cur, h1, h2, h3, h4, h5, h6, h7⟩
  · simp at h1
  · obtain ⟨rfl, rfl⟩ : g = g' ∧ cap = cap' := by simpa using h1
    refine ⟨⟨grown_refl _ _, ?_, (Array.getElem?_eq_some_iff.1 h3).1⟩, h4, h5⟩
    have cell : ∀ k, k < n * 3 → w.cell? ⟨g, k, none⟩ = xs[k]? ∧ w.frozen? ⟨g, k, none⟩ = false := fun k hk => by
      unfold World.cell? World.frozen?
      simp only [h3]
      rw [← h7, List.getElem?_take, if_pos hk]
      simp
    intro j hj
    rw [size_flatK] at hj
    have hj3 : j < d.length * 3 := by simpa using hj
    obtain ⟨x, hxd⟩ := some_of_lt (show j / 3 < d.length by omega)
    have hc := cell j (by rw [hn]; exact hj3)
    rw [Nat.zero_add]
    refine ⟨?_, hc.2⟩
    rw [hc.1, hx, get_flatK _ _ _ _ hj, arr_at hxd]
    have := flat_at (enc := encT (fun x : TermIn S w => x.c)) (fun _ => rfl) hxd (c := j % 3) (Nat.mod_lt _ (by decide))
    rw [show j / 3 * 3 + j % 3 = j by omega] at this
    rw [this]
    have h3 := Nat.mod_lt j (show 0 < 3 by decide)
    simp only [id]
    rcases (show j % 3 = 0 ∨ j % 3 = 1 ∨ j % 3 = 2 by omega) with e | e | e <;> simp [e]
end

/-- how the terms are sorted: falling -/
def fallC {S : Nat → Prop} {w : World} (x y : TermIn S w) : Int := orderM y.t.m x.t.m
def fallL {S : Nat → Prop} {w : World} (x y : TermIn S w) : Bool := decide (0 ≤ orderM x.t.m y.t.m)
theorem orderM_may {a b : Mono} (ha : mayM a = true) (hb : mayM b = true) : orderM a b = compareM a b := by unfold orderM; simp [ha, hb]
theorem fall_le {S : Nat → Prop} {w : World} : CmpLe (fallC (S := S) (w := w)) fallL := by
  refine ⟨fun x y => orderM_range _ _, fun x y => rfl, ⟨fun a b c h1 h2 => ?_, fun a b => ?_⟩⟩
  · unfold fallL at *
    rw [orderM_may a.may b.may] at h1
    rw [orderM_may b.may c.may] at h2
    rw [orderM_may a.may c.may]
    simp only [decide_eq_true_eq] at *
    rcases compareM_cases a.may b.may with g | g | g
    · omega
    · rw [(compareM_zero a.may b.may).1 g]; exact h2
    · rcases compareM_cases b.may c.may with k | k | k
      · omega
      · rw [← (compareM_zero b.may c.may).1 k]; exact h1
      · have := compareM_trans a.may b.may c.may g k
        omega
  · unfold fallL
    rw [orderM_may a.may b.may, orderM_may b.may a.may]
    simp only [decide_eq_true_eq]
    have := compareM_neg a.may b.may
    omega

set_option maxRecDepth 100000 in
set_option maxHeartbeats 1000000 in
theorem collect_order {S : Nat → Prop} {w : World} {g : Nat} (hS : ∀ k, S k → k < w.heap.size ∧ k ≠ g) : CmpT 134 (fun x : TermIn S w => x.c) fallC w g := by
  intro W hW x y
  simp only []
  have hk : Kept S w W := Kept.grown hW (fun k hk => ⟨(hS k hk).1, fun e => (hS k hk).2 (Option.some.inj e)⟩)
  have hSW : ∀ k, S k → k < W.heap.size := fun k hk => Nat.lt_of_lt_of_le (hS k hk).1 hW.size
  have hx := x.ho.to hk (fun _ h => h)
  have hy := y.ho.to hk (fun _ h => h)
  have HC := fun (W' : World) (hE : Ext W W') => poly_order _ _ y.t.m x.t.m W' (hy.ext hE hSW) (hx.ext hE hSW) (lt_ext hSW hE)
  have HCC := hid HC
  unfold fallC
  generalize orderM y.t.m x.t.m = c at *
  generalize x.c = cx at *
  generalize y.c = cy at *
  have HK := hid (Ext.alloc (Ext.alloc (Ext.refl W) (.cells #[.bool cx.neg, .slice cx.ma cx.mn cx.mc, .slice cx.oa cx.on cx.oc] 104)) (.cells #[.bool cy.neg, .slice cy.ma cy.mn cy.mc, .slice cy.oa cy.on cy.oc] 104))
  clear HC hx hy hk hSW
  go_enter Tryz.func134, Tryz.ntmps134
  go_wp2_with fail
  with_reducible refine (HCC.out _ HK.out).mono ?_
  rintro e w1 ⟨rfl, hx1⟩
  have HX1 := hid (HK.out.trans hx1)
  clear hx1
  go_wp2
  all_goals
    go_ret
    exact ⟨rfl, HX1.out⟩

theorem sorted_by {S : Nat → Prop} {w : World} {d : List (TermIn S w)} (h : SortedL fallL d) : (d.map (·.t)).Pairwise fun a b => 0 ≤ compareM a.m b.m := by
  rw [List.pairwise_map]
  refine List.Pairwise.imp (fun {a b} hab => ?_) h
  unfold fallL at hab
  rw [orderM_may a.may b.may] at hab
  simpa using hab

/-- the sort of no terms -/
theorem sort_none_t (A : Option Addr) (c : Nat) (W : World) : Calls Tryz.prog 133 #[.slice A 0 c, .func (.func 134) #[] #[]] W fun e w' => e = .returned (.tuple #[]) ∧ W = w' := by
  have hi : ∀ W, Calls Tryz.prog 191 #[.slice A 0 c, .int .i64 0, .int .i64 0, .func (.func 134) #[] #[]] W fun e w' => e = .returned (.tuple #[]) ∧ W = w' := by
    intro W
    go_enter Tryz.func191, Tryz.ntmps191
    go_wp2
    refine wp_loop_rounds 1 ?_
    rw [rounds_succ]
    go_wp2
    go_end0
    exact ⟨rfl, rfl⟩
  have HI := hid hi
  have hs : Calls Tryz.prog 172 #[.slice A 0 c, .int .i64 0, .func (.func 134) #[] #[]] W fun e w' => e = .returned (.tuple #[]) ∧ W = w' := by
    clear hi
    go_enter Tryz.func172, Tryz.ntmps172
    go_wp2
    refine wp_loop_rounds 1 ?_
    rw [rounds_succ]
    go_wp2_with fail
    with_reducible refine (HI.out _).mono ?_
    rintro e w1 ⟨rfl, rfl⟩
    go_wp2
    refine wp_loop_rounds 1 ?_
    rw [rounds_succ]
    go_wp2
    go_end0
    exact ⟨rfl, rfl⟩
  have HS := hid hs
  clear hi hs
  go_enter Tryz.func133, Tryz.ntmps133
  go_wp2_with fail
  with_reducible refine HS.out.mono ?_
  rintro e w1 ⟨rfl, rfl⟩
  go_wp2
  go_end0
  exact ⟨rfl, rfl⟩
end Go.Proofs.YtcpfeepnfodifaaGreat

namespace Go.Proofs.YtcpfeepnfodifaaGreat
open Go.RowKit Go.Sort

section
variable {P : Program}
/-- room made in a slice that is nil -/
theorem run_append_room0 (w : World) (t u ty e : TypeId) (k : IntKind) (i : TypeInfo) (z : Value) (ht : P.underlying t = some (.slice e)) (hu : P.underlying u = some (.int k)) (hi : P.info? e = some i) (hz : i.zero = some z)
    (n : Nat) (h0 : 0 < n) (h63 : (n : Int) ≤ 9223372036854775807) (h48 : n * i.bytes ≤ 281474976710656) (hs : 0 < i.size) :
    (Builtin.append_ #[t, u] ty #[.slice none 0 0, .int .i64 (n : Int)]).run P w =
      .ok (.slice (some ⟨w.heap.size, 0, none⟩) n (grownCap w n 0 e)) (w.drew.alloc (.cells (Builtin.zeroCells z.cells n ++ Builtin.zeroCells z.cells (grownCap w n 0 e - n)) e)) := by
  have hn : n ≠ 0 := by omega
  have hns : n * i.size ≠ 0 := by
    have := Nat.mul_pos h0 hs
    omega
  have h63' : ¬ (9223372036854775807 < (n : Int)) := by omega
  have h48' : ¬ (281474976710656 < Builtin.nextslicecap n 0 * i.bytes) := by rw [nextslicecap_zero h0]; omega
  have h48i : ¬ (281474976710656 < (n : Int) * (i.bytes : Int)) := by
    have : ((n * i.bytes : Nat) : Int) ≤ 281474976710656 := by omega
    rw [Int.natCast_mul] at this
    omega
  have hw : IntKind.i64.wrap (n : Int) = (n : Int) := by rw [IntKind.wrap_i64]; omega
  have hneg : ¬ ((n : Int) < 0) := by omega
  have hsz : ¬ i.size = 0 := by omega
  simp [Builtin.append_, run_underlying ht, run_underlying hu, sizeOf, typeInfo, zeroValue, hi, hz, asInt, asIntOf, hw, hneg, h48i, hn, hns, h63', h48', Question.forced, run_firstCells_none, newRow, grownCap]

theorem wpList_append_room0 (w : World) {ops : Array Oper} {rest : List Oper} {o : Oper} {a : Act} {Q : Exit → Act → World → Prop} (hgd : o.guard = none) (s x : Operand) (t u : TypeId) (k : IntKind)
    (ho : o.op = .call { callee := .builtin .append, args := #[s, x], argTypes := #[t, u] })
    (e : TypeId) (i : TypeInfo) (z : Value) (size bytes : Nat) (ht : P.underlying t = some (.slice e)) (hu : P.underlying u = some (.int k)) (hi : P.info? e = some i) (hz : i.zero = some z)
    (hsize : i.size = size) (hby : i.bytes = bytes) (hzs : z.cells.size = size) (hsz : 0 < size)
    (n : Nat) (hs : a.eval s = .slice none 0 0) (hx : a.eval x = .int .i64 (n : Int)) (h0 : 0 < n) (h63 : n ≤ maxLen) (hbytes : n * bytes ≤ 140737488355328)
    (h : ∀ cap w', w'.ownsRow w.heap.size e size (.slice (some ⟨w.heap.size, 0, none⟩) 0 cap) 0 [] → n ≤ cap → Ext w w' → wpList P ops Q rest (a.put o.dst (.slice (some ⟨w.heap.size, 0, none⟩) n cap)) w') : wpList P ops Q (o :: rest) a w := by
  have hrun := run_append_room0 (P := P) w t u o.type e k i z ht hu hi hz n h0 (by unfold maxLen at h63; omega) (by rw [hby]; omega) (by omega)
  have hcm : grownCap w n 0 e ≤ maxLen := grownCap_le_maxLen w n 0 e h63
  have hge := grownCap_ge w n 0 e
  refine wpList_plain hgd fun K hK => ?_
  unfold Oper.wp execOp
  simp only [ho, resolve, invoke, builtin, Sem.run_bind, Sem.run_pure, Result.andThen_ok, List.map_toArray, List.map_cons, List.map_nil, hs, hx, hrun]
  refine hK _ _ (h _ _ ?_ hge ?_)
  · refine ⟨by simp, .inr ⟨w.heap.size, _, _, rfl, Nat.le_refl _, heap_alloc_new w.drew _, Nat.zero_le _, hcm, ?_, by simp⟩⟩
    simp only [Array.size_append, size_zeroCells, hzs, ← Nat.add_mul]
    congr 1
    omega
  · exact ((Ext.refl w).drew).alloc _
end

set_option maxRecDepth 100000 in
set_option maxHeartbeats 1000000 in
theorem grow_terms (n : Nat) (w : World) (hn : n ≤ 1000000000000) :
    Calls Tryz.prog 135 #[.slice none 0 0, .int .i64 n] w fun e w' => ∃ v', e = .returned v' ∧ w'.ownsRow w.heap.size 104 3 v' 0 [] ∧ Ext w w' := by
  obtain ⟨j0, hj, jz0, jz1, jz2⟩ := info_parts Tryz.infoTerm
  rcases Nat.eq_zero_or_pos n with rfl | h0
  · go_enter Tryz.func135, Tryz.ntmps135
    go_wp2
    go_ret
    exact ⟨_, rfl, World.ownsRow_nil _ _ _ _, Ext.refl _⟩
  · have q0 : (n : Int) > 0 := by omega
    go_enter Tryz.func135, Tryz.ntmps135
    go_wp2_with (at_builtin; refine wpList_append_room0 _ rfl (.tmp 20) (.tmp 21) 23 3 .i64 rfl 104 j0 (.agg #[.bool false, .slice none 0 0, .slice none 0 0]) 3 56 Tryz.underlying23 Tryz.underlying3 hj jz0 jz1 jz2 rfl (by decide) n rfl rfl h0 (by unfold maxLen; omega) (by omega) ?_; intro cap w1 hown hcap hx; have HW := hid hown; have HX := hid hx; clear hown hx)
    go_ret
    exact ⟨_, rfl, HW.out, HX.out⟩

theorem flat_take {α : Type} {ls : List (List α)} {k : Nat} {p : List α} (h : ls[k]? = some p) : (ls.take (k + 1)).flatten = (ls.take k).flatten ++ p := by
  rw [List.take_add_one, h]
  simp
theorem flat_le {α : Type} (ls : List (List α)) (k : Nat) : (ls.take k).flatten.length ≤ ls.flatten.length := by
  conv => rhs; rw [← List.take_append_drop k ls]
  rw [List.flatten_append, List.length_append]
  omega
theorem own_kept_grown {S : Nat → Prop} {w2 : World} {base : Nat} {e : TypeId} {v : Value} {n : Nat} {xs : List Value} {l : List RTerm} {ys : List Value} {w1 : World} (hS : ∀ k, S k → k < base) (hw : base ≤ w1.heap.size) (h : CellsT S w1 xs l) (ho : w1.ownsRow base e 3 v n ys) (hg : w1.grownBy w2 v.ownBlock) : CellsT S w2 xs l :=
  h.to (Kept.grown hg (fun k hk => ⟨Nat.lt_of_lt_of_le (hS k hk) hw, fun e => by have h1 := (ho.lt k e.symm).1; have h2 := hS k hk; omega⟩)) (fun _ h => h)

set_option maxRecDepth 100000 in
set_option maxHeartbeats 2000000 in
theorem concat_polys {S : Nat → Prop} (v : Value) (ls : List (List RTerm)) (w : World) (h : Polys S w v ls) (hS : ∀ k, S k → k < w.heap.size) (hn : ls.flatten.length ≤ 1000000000000) :
    Calls Tryz.prog 84 #[v] w fun e w' => ∃ v' xs, e = .returned v' ∧ w'.ownsRow w.heap.size 104 3 v' ls.flatten.length xs ∧ CellsT S w' xs ls.flatten ∧ Ext w w' := by
  obtain ⟨j0, hj, jz0, jz1, jz2⟩ := info_parts Tryz.infoTerm
  have H := hid h
  have hll := h.len_le
  obtain ⟨A, c, rfl⟩ := h.form
  obtain ⟨n, hnn⟩ : ∃ n, n = ls.length := ⟨_, rfl⟩
  rw [← hnn] at H hll ⊢
  have HN := hid hnn
  have HFL := hid (flat_le ls)
  clear h hnn
  go_enter Tryz.func84, Tryz.ntmps84
  go_wp2
  go_loop [3, 11] (fun sz i => ∃ k s : Nat, k ≤ n ∧ i = .int .i64 k ∧ sz = .int .i64 s ∧ Hid (s = (ls.take k).flatten.length)) (fun _ i => n - (intOf i).toNat)
  case atStart => exact ⟨0, 0, Nat.zero_le _, rfl, rfl, rfl⟩
  case round =>
    obtain ⟨k, s, hk, rfl, rfl, HSZ⟩ := hrel
    have hs : s ≤ 1000000000000 := by rw [HSZ.out]; exact Nat.le_trans (HFL.out k) hn
    by_cases hlt : k < n
    · obtain ⟨p, hp⟩ := some_of_lt (l := ls) (j := k) (by rw [← HN.out]; exact hlt)
      obtain ⟨bl, off, vp, rfl, -, hn1, hm1, hSb, h1, h2⟩ := H.out.cellAt hp
      have HP := hid (flat_take hp)
      obtain ⟨ap, cp, rfl⟩ := h2.form
      have hlp := h2.len_le
      obtain ⟨np, hnp⟩ : ∃ m, m = p.length := ⟨_, rfl⟩
      rw [← hnp] at h1 hlp
      have hs2 : s + np ≤ 1000000000000 := by
        have h3 := HFL.out (k + 1)
        rw [HP.out, List.length_append, ← HSZ.out, ← hnp] at h3
        exact Nat.le_trans h3 hn
      have HNP := hid hnp
      clear h2 hp hnp
      go_wp2
      go_round
      case rel => exact ⟨k + 1, s + np, by omega, by go_num, by go_num, by show _ = _; rw [HP.out, List.length_append, HSZ.out, HNP.out]⟩
      case measure => simp only [intOf]; omega
    · obtain rfl : k = n := by omega
      have C := hid (grow_terms s w hs)
      go_wp2_with fail
      with_reducible refine C.out.mono ?_
      rintro e w1 ⟨v1, rfl, hown, hx1⟩
      have HW1 := hid hown
      have HX1 := hid hx1
      clear hown hx1
      go_wp2
      go_loopw [6, 8, 27] (fun o _ i wr => ∃ (j s : Nat) (xs : List Value), j ≤ k ∧ i = .int .i64 j ∧ Ext w wr ∧ Hid (s = (ls.take j).flatten.length) ∧ Hid (wr.ownsRow w.heap.size 104 3 o s xs) ∧ Hid (CellsT S wr xs (ls.take j).flatten)) (fun _ _ i _ => k - (intOf i).toNat)
      case atStart => exact ⟨0, 0, [], Nat.zero_le _, rfl, HX1.out, rfl, HW1.out, rfl⟩
      case round =>
        clear HSZ hs
        obtain ⟨j, s, xs, hj', rfl, hx, HSZ, HW, HY⟩ := hrel
        have hs : s ≤ 1000000000000 := by rw [HSZ.out]; exact Nat.le_trans (HFL.out j) hn
        have HX := hid hx
        by_cases hlt : j < k
        · obtain ⟨p, hp⟩ := some_of_lt (l := ls) (j := j) (by rw [← HN.out]; exact hlt)
          obtain ⟨bl, off, vp, rfl, -, hn1, hm1, hSb, h1, h2⟩ := (H.out.ext hx hS).cellAt hp
          have HP := hid (flat_take hp)
          obtain ⟨ap, cp, rfl⟩ := h2.form
          obtain ⟨-, news, hc, hsrc⟩ := h2.src
          obtain ⟨np, hnp⟩ : ∃ m, m = p.length := ⟨_, rfl⟩
          rw [← hnp] at h1 hsrc
          have hs2 : s + np ≤ 1000000000000 := by
            have h3 := HFL.out (j + 1)
            rw [HP.out, List.length_append, ← HSZ.out, ← hnp] at h3
            exact Nat.le_trans h3 hn
          have HNP := hid hnp
          have HSRC := hid hsrc
          have HCN := hid hc
          clear h2 hp hnp hc hsrc hx
          go_wp2_with (at_builtin; refine wpList_append_src _ rfl (.tmp 31) (.tmp 32) 23 rfl w.heap.size 104 j0 (.agg #[.bool false, .slice none 0 0, .slice none 0 0]) 3 56 Tryz.underlying23 hj jz0 jz1 jz2 rfl (by decide) _ s xs rfl HW.out ap np cp news rfl HSRC.out (by unfold maxLen; omega) (by omega) HX.out.size ?_; intro v2 w2 hown hg _; have HW2 := hid hown; have HG2 := hid hg; clear hown hg)
          go_roundw
          case rel =>
            refine ⟨j + 1, s + np, xs ++ news, by omega, by go_num, own_grown0 HX.out HW.out HG2.out, ?_, HW2.out, ?_⟩
            · show _ = _; rw [HP.out, List.length_append, HSZ.out, HNP.out]
            · show CellsT _ _ _ _
              rw [HP.out]
              exact (own_kept_grown hS HX.out.size HY.out HW.out HG2.out).append (own_kept_grown hS HX.out.size HCN.out HW.out HG2.out)
          case measure => simp only [intOf]; omega
        · obtain rfl : j = k := by omega
          have HE : Hid (ls.take j = ls) := hid (List.take_of_length_le (by rw [← HN.out]; exact Nat.le_refl _))
          clear hx
          go_wp2
          go_ret
          have h1 := HW.out
          have h2 := HY.out
          have h3 := HSZ.out
          rw [HE.out] at h2 h3
          rw [h3] at h1
          exact ⟨_, xs, rfl, h1, h2, HX.out⟩
end Go.Proofs.YtcpfeepnfodifaaGreat

namespace Go.Proofs.YtcpfeepnfodifaaGreat

def sumP (g : PZ) : Int := (g.map (·.1)).foldr (· + ·) 0
def oneP (c : Int) (m : Mono) : PZ := if c = 0 then [] else [(c, m)]
/-- groups of one monomial each, summed -/
inductive Coll : PZ → PZ → Prop where
  | nil : Coll [] []
  | group (t : Int × Mono) (g r q : PZ) (h : ∀ u ∈ g, u.2 = t.2) (hr : ∀ u ∈ r.head?, u.2 ≠ t.2) (k : Coll r q) : Coll (t :: g ++ r) (oneP (t.1 + sumP g) t.2 ++ q)

theorem cf_same {g : PZ} {m : Mono} (h : ∀ u ∈ g, u.2 = m) (m' : Mono) : cf g m' = if m = m' then sumP g else 0 := by
  induction g with
  | nil => simp [cf, sumP]
  | cons u g ih =>
    have h1 := h u (by simp)
    have h2 := ih (fun v hv => h v (by simp [hv]))
    rw [cf, h2, h1]
    have e : sumP (u :: g) = u.1 + sumP g := rfl
    rw [e]
    split <;> omega
theorem cf_oneP (c : Int) (m m' : Mono) : cf (oneP c m) m' = if m = m' then c else 0 := by
  unfold oneP
  split
  · rename_i h; subst h; simp [cf]
  · simp [cf]
theorem fall_head {t : Int × Mono} {g r : PZ} (hm : mayAll (t :: g ++ r)) (hf : (t :: g ++ r).Pairwise fun a b => 0 ≤ compareM a.2 b.2) (hr : ∀ u ∈ r.head?, u.2 ≠ t.2) : ∀ u ∈ r, compareM t.2 u.2 = 1 := by
  have ht := hm t (by simp)
  cases r with
  | nil => intro u hu; simp at hu
  | cons x r =>
    have hx := hm x (by simp)
    have hne := hr x (by simp)
    have h1 : ∀ u ∈ g ++ x :: r, 0 ≤ compareM t.2 u.2 := (List.pairwise_cons.1 (show (t :: (g ++ x :: r)).Pairwise _ from hf)).1
    have hxt : compareM t.2 x.2 = 1 := by
      have := h1 x (by simp)
      rcases compareM_cases ht hx with g | g | g
      · omega
      · exact absurd ((compareM_zero ht hx).1 g).symm hne
      · exact g
    intro u hu
    rcases List.mem_cons.1 hu with rfl | hu'
    · exact hxt
    · have hu2 := hm u (by simp [hu'])
      have h2 : 0 ≤ compareM x.2 u.2 := by
        have := (List.pairwise_append.1 (show ((t :: g) ++ (x :: r)).Pairwise _ from hf)).2.1
        exact (List.pairwise_cons.1 this).1 u hu'
      rcases compareM_cases hx hu2 with k | k | k
      · omega
      · rw [← (compareM_zero hx hu2).1 k]; exact hxt
      · exact compareM_trans ht hx hu2 hxt k
theorem Coll.can {p q : PZ} (h : Coll p q) (hm : mayAll p) (hf : p.Pairwise fun a b => 0 ≤ compareM a.2 b.2) : canP q ∧ (∀ m, cf q m = cf p m) ∧ ∀ u ∈ q, ∃ v ∈ p, v.2 = u.2 := by
  induction h with
  | nil => exact ⟨canP_nil, fun _ => rfl, fun u hu => by simp at hu⟩
  | group t g r q hg hr k ih =>
    have hmr : mayAll r := fun u hu => hm u (by simp [hu])
    have hfr := (List.pairwise_append.1 (show ((t :: g) ++ r).Pairwise _ from hf)).2.1
    obtain ⟨i1, i2, i3⟩ := ih hmr hfr
    have hhd := fall_head hm hf hr
    have ht := hm t (by simp)
    refine ⟨?_, fun m => ?_, fun u hu => ?_⟩
    · unfold oneP
      split
      · exact i1
      · rename_i hne
        refine ⟨fun u hu => ?_, ?_⟩
        · rcases List.mem_append.1 hu with hu | hu
          · rw [List.mem_singleton.1 hu]; exact ⟨hne, ht⟩
          · exact i1.1 u hu
        · refine List.pairwise_cons.2 ⟨fun u hu => ?_, i1.2⟩
          obtain ⟨v, hv, hvu⟩ := i3 u hu
          rw [← hvu]
          exact hhd v hv
    · rw [cf_append, cf_oneP, i2, show t :: g ++ r = (t :: g) ++ r from rfl, cf_append, cf, cf_same hg]
      split <;> omega
    · rcases List.mem_append.1 hu with hu | hu
      · unfold oneP at hu
        split at hu
        · simp at hu
        · rw [List.mem_singleton.1 hu]; exact ⟨t, by simp, rfl⟩
      · obtain ⟨v, hv, hvu⟩ := i3 u hu
        exact ⟨v, by simp [hv], hvu⟩
theorem Coll.norm {p q l : PZ} (h : Coll p q) (hm : mayAll p) (hf : p.Pairwise fun a b => 0 ≤ compareM a.2 b.2) (hp : p.Perm l) : q = normP l := by
  obtain ⟨h1, h2, _⟩ := h.can hm hf
  have hl : mayAll l := fun t ht => hm t (hp.mem_iff.2 ht)
  exact canP_ext h1 (normP_can hl) (fun m _ => by rw [h2, normP_cf hl, cf_perm hp])

/-- how many limbs a number has -/
def lenI (z : Int) : Nat := (rep B32 z.natAbs).length
theorem lenI_lt {z : Int} {k : Nat} (h : z.natAbs < B32 ^ k) : lenI z ≤ k := rep_len_le two_le_B32 _ _ h
theorem lt_lenI (z : Int) : z.natAbs < B32 ^ lenI z := le_of_rep_len two_le_B32 _
theorem lenI_mono {z : Int} {j k : Nat} (h : lenI z ≤ j) (hk : j ≤ k) : z.natAbs < B32 ^ k := Nat.lt_of_lt_of_le (lt_lenI z) (Nat.pow_le_pow_right (by decide) (Nat.le_trans h hk))
theorem ofI_len (z : Int) : (ofI z).mag.length = lenI z := rfl
theorem valI_len {r : RInt} (h : okI r) : lenI (valI r) ≤ r.mag.length := by
  refine lenI_lt ?_
  have := val_lt (B := B32) r.mag h
  unfold valI
  split <;> simpa using this
/-- all coefficients are below a power -/
def bndZ (k : Nat) (p : PZ) : Prop := ∀ t ∈ p, t.1.natAbs < B32 ^ k
theorem bndZ.mono {j k : Nat} {p : PZ} (h : bndZ j p) (hjk : j ≤ k) : bndZ k p := fun t ht => Nat.lt_of_lt_of_le (h t ht) (Nat.pow_le_pow_right (by decide) hjk)
theorem bndZ.append {k : Nat} {p q : PZ} (h : bndZ k p) (h' : bndZ k q) : bndZ k (p ++ q) := fun t ht => by
  rcases List.mem_append.1 ht with ht | ht
  · exact h t ht
  · exact h' t ht
theorem cf_bnd {k : Nat} {p : PZ} (h : bndZ k p) (m : Mono) : (cf p m).natAbs ≤ p.length * B32 ^ k := by
  induction p with
  | nil => simp [cf]
  | cons t r ih =>
    have h1 := h t (by simp)
    have h2 := ih (fun u hu => h u (by simp [hu]))
    simp only [cf, List.length_cons, Nat.add_mul, Nat.one_mul]
    generalize B32 ^ k = b at *
    generalize r.length * b = c at *
    split <;> omega
theorem normP_bnd {k : Nat} {p : PZ} (hm : mayAll p) (h : bndZ k p) (hl : p.length < B32 ^ 2) : bndZ (k + 2) (normP p) := by
  intro t ht
  have hc := (normP_can hm).cf_mem ht
  rw [normP_cf hm] at hc
  have := cf_bnd h t.2
  rw [hc] at this
  refine Nat.lt_of_le_of_lt this ?_
  rw [Nat.pow_add, Nat.mul_comm]
  exact Nat.mul_lt_mul_of_pos_left hl (Nat.pow_pos (by decide))
theorem sum_len {z : Int} {g : PZ} {k : Nat} (h0 : z.natAbs < B32 ^ k) (h : bndZ k g) (hl : g.length + 1 < B32 ^ 2) : lenI (z + sumP g) ≤ k + 2 := by
  refine lenI_lt ?_
  have h1 : (sumP g).natAbs ≤ g.length * B32 ^ k := by
    clear hl
    induction g with
    | nil => simp [sumP]
    | cons u g ih =>
      have h1 := h u (by simp)
      have h2 := ih (fun v hv => h v (by simp [hv]))
      have e : sumP (u :: g) = u.1 + sumP g := rfl
      rw [e]
      simp only [List.length_cons, Nat.add_mul, Nat.one_mul]
      generalize B32 ^ k = b at *
      generalize g.length * b = c at *
      omega
  rw [Nat.pow_add, Nat.mul_comm]
  have h2 : (g.length + 1) * B32 ^ k < B32 ^ 2 * B32 ^ k := Nat.mul_lt_mul_of_lt_of_le hl (Nat.le_refl _) (Nat.pow_pos (by decide))
  refine Nat.lt_of_le_of_lt ?_ h2
  rw [Nat.add_mul, Nat.one_mul]
  omega
theorem sumP_snoc (g : PZ) (t : Int × Mono) : sumP (g ++ [t]) = sumP g + t.1 := by
  induction g with
  | nil => simp [sumP]
  | cons u g ih =>
    have e : ∀ l, sumP (u :: l) = u.1 + sumP l := fun _ => rfl
    rw [List.cons_append, e, e, ih]
    omega
end Go.Proofs.YtcpfeepnfodifaaGreat

namespace Go.Proofs.YtcpfeepnfodifaaGreat
open Go.RowKit Go.Sort

/-- new blocks but one -/
abbrev NewBut (a b : World) (B : Nat) : Nat → Prop := fun k => (a.heap.size ≤ k ∧ k < b.heap.size) ∧ k ≠ B
def toQ {S : Nat → Prop} {w : World} (q : List (TermIn S w)) : PZ := toP (q.map (·.t))

set_option maxRecDepth 100000 in
set_option maxHeartbeats 8000000 in
theorem poly_collect {S : Nat → Prop} (v : Value) (ts : List RTerm) (w : World) (L : Nat) (h : Terms S w v ts) (hS : ∀ k, S k → k < w.heap.size) (hm : ∀ t ∈ ts, mayM t.m = true) (hr : ∀ t ∈ ts, t.c.mag.length ≤ L) (hL : L ≤ 10000000000) (hn : ts.length ≤ 1000000000000) :
    Calls Tryz.prog 83 #[v] w fun e w' => ∃ v', e = .returned v' ∧ Terms (New w w') w' v' (ofP (normP (toP ts))) ∧ Ext w w' := by
  obtain ⟨j0, hj, jz0, jz1, jz2⟩ := info_parts Tryz.infoTerm
  have H := hid h
  have HMAY := hid hm
  have HR := hid hr
  have HC := hid (clone_terms v ts w h hS hn)
  obtain ⟨a, cap, rfl⟩ := h.form
  clear h hm hr
  go_enter Tryz.func83, Tryz.ntmps83
  go_wp2_with fail
  with_reducible refine HC.out.mono ?_
  rintro e w1 ⟨v1, xs, rfl, hown, hcells, hx1⟩
  have HOWN := hid hown
  have HX1 := hid hx1
  have HCE := hid hcells
  obtain ⟨d, hd1, hd2⟩ := cells_terms hcells HMAY.out
  clear hcells hx1
  rcases hown.2 with ⟨rfl, h0⟩ | ⟨g, cap', cur, rfl, hg, hgg, hnc, hcm, hsz, hcur⟩
  · obtain rfl : ts = [] := List.length_eq_zero_iff.1 h0
    clear hown h0 hd1 hd2
    go_wp2_with fail
    with_reducible refine (sort_none_t _ _ _).mono ?_
    rintro e w2 ⟨rfl, rfl⟩
    go_wp2
    refine wp_loop_rounds 1 ?_
    rw [rounds_succ]
    go_wp2
    go_ret
    exact ⟨_, rfl, Terms.nilv _ _ _ _ (by decide), HX1.out⟩
  · obtain ⟨n, hnn⟩ : ∃ n, n = ts.length := ⟨_, rfl⟩
    rw [← hnn] at hown ⊢
    have hnd : n = d.length := by rw [hnn, ← hd1]; simp
    obtain ⟨hsa, hc1, hc2⟩ := own_sortAt hown hd2 hnd
    have hSg : ∀ k, S k → k < w1.heap.size ∧ k ≠ g := fun k hk => ⟨Nat.lt_of_lt_of_le (hS k hk) HX1.out.size, by have := hS k hk; omega⟩
    have HSG := hid hSg
    have hn' : n ≤ 1000000000000 := by omega
    have C := hid (sort_t (tc := fun x : TermIn S w1 => x.c) (cf := fallC) (le := fallL) (cap := cap') d w1 (collect_order hSg) fall_le hnd hsa hc1 hn')
    have HD1 := hid hd1
    have HND := hid hnd
    have HGW : Hid (w.heap.size ≤ g) := hid hg
    unfold maxLen at hc2
    have HNN := hid hnn
    clear hown hd1 hd2 hnd hsa hSg hg hgg hnc hcm hsz hcur hnn
    go_wp2_with fail
    with_reducible refine C.out.mono ?_
    rintro e w2 ⟨rfl, hs2⟩
    have hk2 : Kept S w w2 := (Kept.ext HX1.out hS).trans (Kept.grown hs2.grown (fun k hk => ⟨(HSG.out k hk).1, fun e => (HSG.out k hk).2 (Option.some.inj e)⟩))
    have hx2 : Ext w w2 := ext_grown HX1.out hs2.grown (fun k hk => by
      have : g = k := Option.some.inj hk
      have := HGW.out
      omega)
    have HS2 := hid hs2
    have HX2 := hid hx2
    have HKS : Hid (∀ W, Ext w2 W → Kept S w1 W ∧ ∀ k, S k → k < W.heap.size) := hid (fun W hW =>
      ⟨Kept.grown (grown_ext hs2.grown hW) (fun k hk => ⟨(HSG.out k hk).1, fun e => (HSG.out k hk).2 (Option.some.inj e)⟩), fun k hk => Nat.lt_of_lt_of_le (hS k hk) (hx2.trans hW).size⟩)
    have hp := sortL_perm (le := fallL) d
    have hso := sorted_by (sortL_sorted (fall_le (S := S) (w := w1)).total d)
    have hle := sortL_len (le := fallL) d
    generalize sortL fallL d = q at *
    have HP := hid hp
    have HSO := hid hso
    have HQN : Hid (n = q.length) := hid (by rw [hle]; exact HND.out)
    clear hp hso hle hs2 hk2 hx2
    go_wp2
    go_loopw [0, 2, 3, 4] (fun l p _ _ wr => ∃ (q1 q2 : List (TermIn S w1)) (A : Option Addr) (m cl k : Nat) (ys : List Value) (ps : PZ), Hid (q = q1 ++ q2) ∧ l = .slice A m cl ∧ Hid (m = q2.length) ∧ Hid (0 < m → A = some ⟨g, q1.length * 3, none⟩) ∧ m ≤ cl ∧ cl ≤ 9223372036854775807 ∧ Ext w2 wr ∧ Hid (wr.ownsRow w2.heap.size 104 3 p k ys) ∧ Hid (CellsT (NewOff w2 wr p) wr ys (ofP ps)) ∧ Hid (k = ps.length) ∧ Hid (∀ z, Coll (toQ q2) z → Coll (toQ q) (ps ++ z)) ∧ k ≤ q1.length) (fun l _ _ _ _ => sliceLen l)
    case atStart => exact ⟨[], q, _, n, cap', 0, [], [], rfl, rfl, HQN.out, fun _ => by simp, hc1, by omega, Ext.refl _, World.ownsRow_nil _ _ _ _, rfl, rfl, fun z hz => by simpa using hz, Nat.zero_le _⟩
    case round =>
      obtain ⟨q1, q2, A, m, cl, k, ys, ps, HQ, rfl, HMQ, HA, hmc, hcl, hx, HW, HY, HKK, HCO, hkq⟩ := hrel
      have HX := hid hx
      clear hx
      generalize wr = w4 at *
      cases q2 with
      | nil =>
        obtain rfl : m = 0 := HMQ.out
        have HF : Hid (ps = normP (toP ts)) := hid (by
          have h1 := HCO.out [] .nil
          rw [List.append_nil] at h1
          refine h1.norm ?_ ?_ ?_
          · intro u hu
            obtain ⟨t, ht, rfl⟩ := List.mem_map.1 hu
            obtain ⟨y, -, rfl⟩ := List.mem_map.1 ht
            exact y.may
          · unfold toQ toP
            rw [List.pairwise_map]
            exact HSO.out
          · rw [← HD1.out]
            exact (HP.out.map _).map _)
        go_wp2
        go_ret
        refine ⟨_, rfl, ?_, HX2.out.trans HX.out⟩
        have hc := HY.out
        rw [HF.out] at hc
        have ho := HW.out
        rw [HKK.out, HF.out] at ho
        exact own_terms (by rw [ofP_length]; exact ho) (hc.to (Kept.refl _ _) (fun _ h => ⟨Nat.le_trans HX2.out.size h.1.1, h.1.2⟩)) (fun k h1 h2 => ⟨Nat.le_trans HX2.out.size h1, h2⟩)
      | cons x r =>
        obtain ⟨m, rfl⟩ : ∃ m', m = m' + 1 := ⟨m - 1, by have := HMQ.out; simp at this; omega⟩
        obtain rfl : A = some ⟨g, q1.length * 3, none⟩ := HA.out (by omega)
        have HXS := hid (HS2.out.later HX.out)
        have hq1 : q[q1.length]? = some x := by rw [HQ.out]; exact at_len _ _ _
        obtain ⟨⟨c0, c1, c2⟩, -⟩ := HXS.out.get3 hq1
        simp only [Nat.zero_add] at c0 c1 c2
        have HMR : Hid (m = r.length) := hid (by have := HMQ.out; simpa using this)
        have HLX : Hid (∀ y ∈ q, y.t.c.mag.length ≤ L) := hid (fun y hy => by
          refine HR.out _ ?_
          rw [← HD1.out]
          exact List.mem_map_of_mem (HP.out.mem_iff.1 hy))
        have HXQ : Hid (x ∈ q) := hid (by rw [HQ.out]; simp)
        have CA := hid (whole_add (S := S) (.agg #[.bool x.c.neg, .slice x.c.ma x.c.mn x.c.mc]) _ x.t.c ⟨false, []⟩ w4 ⟨_, by rw [x.neg], x.hm.to (HKS.out w4 HX.out).1 (fun _ h => h)⟩ (zero_int _ _) (HKS.out w4 HX.out).2 (by have := HLX.out x HXQ.out; omega) (by decide))
        clear hq1 HMQ HA
        go_wp2_with fail
        with_reducible refine CA.out.mono ?_
        rintro e w3 ⟨vc, rfl, ⟨vm3, rfl, hu3⟩, hx3⟩
        rw [valI_zeroI, Int.add_zero] at hu3 ⊢
        obtain ⟨am, cm, rfl⟩ := hu3.form
        obtain ⟨z0, hz0⟩ : ∃ z, z = valI x.t.c := ⟨_, rfl⟩
        rw [← hz0] at hu3 ⊢
        have HX3 := hid hx3
        have HU3 := hid hu3
        have HZ0 := hid hz0
        have HBX : Hid (w4.heap.size ≤ w3.heap.size) := hid hx3.size
        clear hu3 hx3 hz0
        obtain ⟨ng0, hng0⟩ : ∃ b, b = (ofI z0).neg := ⟨_, rfl⟩
        obtain ⟨nl0, hnl0⟩ : ∃ b, b = (ofI z0).mag.length := ⟨_, rfl⟩
        rw [← hng0, ← hnl0]
        rw [← hnl0] at HU3
        have HNG0 := hid hng0
        have HNL0 := hid hnl0
        clear hng0 hnl0
        have HU4 : Hid (U32s (NewBut w4 (w3.alloc (.cells #[.bool ng0, .slice am nl0 cm] 94)) w3.heap.size) (w3.alloc (.cells #[.bool ng0, .slice am nl0 cm] 94)) (.slice am nl0 cm) (ofI z0).mag) := hid (HU3.out.to (Kept.alloc (fun k hk => hk.2) _) (fun k hk => ⟨⟨hk.1, by rw [size_alloc]; have := hk.2; omega⟩, by have := hk.2; omega⟩))
        have HX4 := hid (HX3.out.alloc (.cells #[.bool ng0, .slice am nl0 cm] 94))
        obtain ⟨k0, k1, k2, k3⟩ := new2 (Ext.refl (w3.alloc (.cells #[.bool ng0, .slice am nl0 cm] 94)))
        have HK4 := hid (And.intro k0 (And.intro k1 (And.intro k2 k3)))
        clear k0 k1 k2 k3
        go_wp2
        go_loopw [3] (fun nn wx => ∃ (r1 r2 : List (TermIn S w1)) (cn : Nat) (z : Int) (ng : Bool) (am : Option Addr) (nl cm : Nat), Hid (r = r1 ++ r2) ∧ nn = .int .i64 cn ∧ Hid (cn = r1.length + 1) ∧ cn ≤ m + 1 ∧ Hid (∀ y ∈ r1, y.t.m = x.t.m) ∧ Hid (z = valI x.t.c + sumP (toQ r1)) ∧ Hid (ng = (ofI z).neg) ∧ Hid (nl = (ofI z).mag.length) ∧ Ext w4 wx ∧
          wx.cell? ⟨w3.heap.size, 0, none⟩ = some (.bool ng) ∧ wx.cell? ⟨w3.heap.size, 1, none⟩ = some (.slice am nl cm) ∧ wx.frozen? ⟨w3.heap.size, 0, none⟩ = false ∧ wx.frozen? ⟨w3.heap.size, 1, none⟩ = false ∧ Hid (U32s (NewBut w4 wx w3.heap.size) wx (.slice am nl cm) (ofI z).mag)) (fun nn _ => m + 1 - (intOf nn).toNat)
        case atStart => exact ⟨[], r, 1, z0, ng0, am, nl0, cm, rfl, rfl, rfl, by omega, fun y hy => by simp at hy, by show _ = _; rw [HZ0.out]; simp [toQ, toP, sumP], HNG0.out, HNL0.out, HX4.out, HK4.out.1, HK4.out.2.1, HK4.out.2.2.1, HK4.out.2.2.2, HU4.out⟩
        case round =>
          clear HU4 HX4 HK4 HNG0 HNL0 HZ0 HU3 CA
          obtain ⟨r1, r2, cn, z, ng, am, nl, cm, HR12, rfl, HCN, hrm, HSM, HZ, HNG, HNL, hx5, k0, k1, k2, k3, HU5⟩ := hrel
          have HX5 := hid hx5
          have HX25 := hid (HX.out.trans hx5)
          have d0 := hx5.cell c0
          have d1 := hx5.cell c1
          have d2 := hx5.cell c2
          have HKC := hid (And.intro k0 (And.intro k1 (And.intro k2 k3)))
          have HD0 := hid (And.intro d0 (And.intro d1 d2))
          clear hx5
          cases r2 with
          | nil =>
            have hcm : cn = m + 1 := by rw [HCN.out, HMR.out, HR12.out]; simp
            have q1' : decide ((cn : Int) < (m : Int) + 1) = false := decide_eq_false (by omega)
            have HEX : Hid (∀ u ∈ (toQ ([] : List (TermIn S w1))).head?, u.2 ≠ x.t.m) := hid (fun u hu => by simp [toQ, toP] at hu)
            clear hcm
            go_wp2
            refine wp_region_later (by kernel_rfl) (by kernel_rfl) ?_
            repeat (go_big_quiet_step (fail))
            refine wpQuiet_nil ?_
            intro W2 hW2
            have HW2 := hid hW2
            clear q1'
            have HBL : Hid (w3.heap.size < wr.heap.size) := hid (lt_of_cell k0)
            have hk0 := hW2.cell k0
            have hk1 := hW2.cell k1
            have HLZ : Hid ((ofI z).mag.length ≤ 40000000000000) := hid (by
              rw [ofI_len, HZ.out]
              refine Nat.le_trans (sum_len (k := L) ?_ ?_ ?_) (by omega)
              · exact lenI_mono (valI_len x.hm.lt) (HLX.out x HXQ.out)
              · intro u hu
                obtain ⟨t, ht, rfl⟩ := List.mem_map.1 hu
                obtain ⟨y', hy', rfl⟩ := List.mem_map.1 ht
                exact lenI_mono (valI_len y'.hm.lt) (HLX.out y' (by rw [HQ.out, HR12.out]; simp [hy']))
              · have h1 := HMR.out
                have h2 := HQN.out
                rw [HQ.out] at h2
                rw [HR12.out] at h1 h2
                have hB2 : B32 ^ 2 = 18446744073709551616 := by decide
                rw [hB2]
                simp [toQ, toP] at h1 h2 ⊢
                omega)
            have HMC : Hid (m + 1 - cn = ([] : List (TermIn S w1)).length ∧ cn = r1.length + 1) := hid (by
              have h1 := HMR.out
              rw [HR12.out] at h1
              have h2 := HCN.out
              simp at h1 ⊢
              omega)
            have HCOL : Hid (∀ z', Coll (toQ ([] : List (TermIn S w1))) z' → Coll (toQ (x :: r)) (oneP z x.t.m ++ z')) := hid (fun z' hz' => by
              have h1 := Coll.group (valI x.t.c, x.t.m) (toQ r1) (toQ ([] : List (TermIn S w1))) z' (fun u hu => by
                obtain ⟨t, ht, rfl⟩ := List.mem_map.1 hu
                obtain ⟨y', hy', rfl⟩ := List.mem_map.1 ht
                exact HSM.out y' hy') HEX.out hz'
              rw [HZ.out, HR12.out]
              have e : toQ (x :: (r1 ++ ([] : List (TermIn S w1)))) = (valI x.t.c, x.t.m) :: toQ r1 ++ toQ ([] : List (TermIn S w1)) := by simp [toQ, toP]
              rw [e]
              exact h1)
            have CS := hid (whole_sign (S := NewBut w4 wr w3.heap.size) (.agg #[.bool ng, .slice am nl cm]) (ofI z) W2 ⟨_, by rw [HNG.out], HU5.out.to (Kept.ext hW2 (fun k hk => hk.1.2)) (fun _ h => h)⟩ (fun k hk => Nat.lt_of_lt_of_le hk.1.2 hW2.size) (by have := HLZ.out; omega))
            have HD2 := hid (And.intro (hW2.cell d0) (And.intro (hW2.cell d1) (hW2.cell d2)))
            have hsgv : signI (valI (ofI z)) = signI z := by rw [valI_ofI]
            clear k0 k1 k2 k3 d0 d1 d2 hW2
            go_wp2_with fail
            with_reducible refine CS.out.mono ?_
            rw [hsgv]
            rintro e w6 ⟨rfl, hx6⟩
            have HX6 := hid (HW2.out.trans hx6)
            obtain ⟨sg, hsg⟩ : ∃ s, s = signI z := ⟨_, rfl⟩
            rw [← hsg]
            have hsr : -1 ≤ sg ∧ sg ≤ 1 := by rw [hsg]; unfold signI; rcases cmpI_cases z 0 with h | h | h <;> omega
            obtain ⟨hsr1, hsr2⟩ := hsr
            have HSG2 := hid hsg
            have hk0' := hx6.cell hk0
            have hk1' := hx6.cell hk1
            have hcm1 : cn ≤ m + 1 := hrm
            by_cases hz : z = 0
            · have hb : (sg != 0) = false := by rw [hsg, hz]; decide
              have HZZ := hid hz
              clear hk0 hk1 hsgv hsg hz hx6
              go_wp2
              go_roundw
              case rel =>
                refine ⟨q1 ++ x :: r1, ([] : List (TermIn S w1)), _, m + 1 - cn, cl - cn, k, ys, ps, ?_, rfl, HMC.out.1, ?_, by omega, by omega, HX.out.trans (HX5.out.trans HX6.out), own_ext HW.out (HX5.out.trans HX6.out), newOff_ext HY.out (HX5.out.trans HX6.out), HKK.out, fun z' hz' => ?_, ?_⟩
                · show _ = _; rw [HQ.out, HR12.out]; simp
                · intro h
                  have h2 := HMC.out.2
                  try rw [if_neg (by omega)]
                  congr 2
                  simp
                  omega
                · have h1 := HCOL.out z' hz'
                  rw [HZZ.out] at h1
                  exact HCO.out z' h1
                · simp; omega
              case measure => have h2 := HMC.out.2; simp only [sliceLen]; omega
            · have hb : (sg != 0) = true := by
                rw [hsg, bne_iff_ne]
                unfold signI cmpI
                split <;> (try split) <;> omega
              clear hk0 hk1 hsgv hsg hx6
              have hx40 : Ext w4 w6 := HX5.out.trans HX6.out
              have HX40 := hid hx40
              have HXR := hid ((Ext.refl w6).drew)
              have HXD := hid hx40.drew
              have S0 : _ ∧ _ ∧ _ := And.intro (HXR.out.cell hk0') (And.intro (HXR.out.cell hk1') ((hx40.drew).cell c2))
              have HU7 : Hid (∀ W, Ext w6 W → U32s (NewBut w4 W w3.heap.size) W (.slice am nl cm) (ofI z).mag) := hid (fun W hW => HU5.out.to (Kept.ext (HX6.out.trans hW) (fun k hk => hk.1.2)) (fun k hk => ⟨⟨hk.1.1, Nat.lt_of_lt_of_le hk.1.2 (HX6.out.trans hW).size⟩, hk.2⟩))
              have CCL := hid (clone_mono (S := S) (.slice x.c.oa x.c.on x.c.oc) x.t.m w6.drew (x.ho.to (HKS.out _ (HX.out.trans HXD.out)).1 (fun _ h => h)) (HKS.out _ (HX.out.trans HXD.out)).2 (Nat.le_trans (mayM_len x.may) (by decide)))
              have HWR := hid (own_ext HW.out HXD.out)
              have HYR := hid (newOff_ext HY.out HXD.out)
              have HKC6 := hid (And.intro hk0' hk1')
              have HB3 : Hid (k + 1 ≤ maxLen) := hid (by have h1 := HQN.out; rw [HQ.out] at h1; simp at h1; unfold maxLen; omega)
              have HB4 : Hid ((k + 1) * 56 ≤ 140737488355328) := hid (by have h1 := HQN.out; rw [HQ.out] at h1; simp at h1; omega)
              have HXDD := hid (HX.out.trans HXD.out)
              clear hx40 hk0' hk1'
              have HKB : Hid (some w3.heap.size ≠ u2.ownBlock) := hid (fun e => by have h1 := (HW.out.lt _ e.symm).2; have h2 := HBX.out; omega)
              have HKG : Hid (some g ≠ u2.ownBlock) := hid (fun e => by have h1 := (HW.out.lt _ e.symm).1; have h2 := HS2.out.old; have h3 := HS2.out.grown.size; omega)
              have hcn : 0 < m + 1 := Nat.succ_pos m
              go_wp2_with fail
              go_region_held3 (fun W => W.cell? ⟨w3.heap.size, 0, none⟩ = some (.bool ng) ∧ W.cell? ⟨w3.heap.size, 1, none⟩ = some (.slice am nl cm) ∧ W.cell? ⟨g, q1.length * 3 + 2, none⟩ = some (.slice x.c.oa x.c.on x.c.oc)) (first | exact S0 | exact S7 | exact ⟨cell_old _ S7.1, cell_old _ S7.2.1, cell_old _ S7.2.2⟩ | exact S9)
                (first
                  | (go_at_call 128; (with_reducible refine CCL.out.mono ?_); rintro e w7 ⟨v7, rfl, hp7, hx7⟩; have HX7 := hid hx7; have S7 : _ ∧ _ ∧ _ := And.intro (HX7.out.cell S0.1) (And.intro (HX7.out.cell S0.2.1) (HX7.out.cell S0.2.2)); have HP7 := hid hp7; obtain ⟨a7, c7, rfl⟩ := hp7.form; obtain ⟨n7, hn7⟩ : ∃ n, n = x.t.m.length := ⟨_, rfl⟩; rw [← hn7]; rw [← hn7] at HP7; have HN7 := hid hn7
                     have HW7 := hid (own_ext (own_ext HWR.out HX7.out) (Ext.alloc (Ext.refl w7) (.cells #[.bool ng, .slice am nl cm, .slice a7 n7 c7] 104))); have HY7 := hid (newOff_ext (newOff_ext HYR.out HX7.out) (Ext.alloc (Ext.refl w7) (.cells #[.bool ng, .slice am nl cm, .slice a7 n7 c7] 104))); have HSRC7 := hid (src_one w7 #[.bool ng, .slice am nl cm, .slice a7 n7 c7] 104 (three_cell rfl rfl rfl) rfl); have HB5 := hid (Nat.le_trans (HXDD.out.trans HX7.out).size (World.grownBy_alloc w7 (.cells #[.bool ng, .slice am nl cm, .slice a7 n7 c7] 104) none).size); have HX27 := hid ((HXDD.out.trans HX7.out).alloc (.cells #[.bool ng, .slice am nl cm, .slice a7 n7 c7] 104)); have HC7 := hid (And.intro (cell_old (.cells #[.bool ng, .slice am nl cm, .slice a7 n7 c7] 104) S7.1) (And.intro (cell_old (.cells #[.bool ng, .slice am nl cm, .slice a7 n7 c7] 104) S7.2.1) (cell_old (.cells #[.bool ng, .slice am nl cm, .slice a7 n7 c7] 104) S7.2.2))); clear hx7 hp7 hn7)
                  | (refine step_append_src rfl (.tmp 47) (.tmp 55) 23 rfl w2.heap.size 104 j0 (.agg #[.bool false, .slice none 0 0, .slice none 0 0]) 3 56 Tryz.underlying23 hj jz0 jz1 jz2 rfl (Nat.succ_pos _) _ k ys rfl HW7.out (some ⟨w7.heap.size, 0, none⟩) 1 1 _ rfl HSRC7.out HB3.out HB4.out HB5.out ?_; intro v9 w9 hown hg hbk; have HW9 := hid hown; have HG9 := hid hg; have HBK := hid hbk; have HX9 := hid (own_grown0 HX27.out HW7.out hg); have S9 : _ ∧ _ ∧ _ := And.intro (hg.cell HC7.out.1 HKB.out) (And.intro (hg.cell HC7.out.2.1 HKB.out) (hg.cell HC7.out.2.2 HKG.out)); clear hown hg hbk))
              all_goals
                go_wp2
                go_roundw
                case rel =>
                  refine ⟨q1 ++ x :: r1, ([] : List (TermIn S w1)), _, m + 1 - cn, cl - cn, k + 1, ys ++ (#[.bool ng, .slice am nl cm, .slice a7 n7 c7] : Array Value).toList, ps ++ [(z, x.t.m)], ?_, rfl, HMC.out.1, ?_, by omega, by omega, HX9.out, HW9.out, ?_, ?_, fun z' hz' => ?_, ?_⟩
                  · show _ = _; rw [HQ.out, HR12.out]; simp
                  · intro h
                    have h2 := HMC.out.2
                    try rw [if_neg (by omega)]
                    congr 2
                    simp
                    omega
                  · have hone : CellsT (NewOff w2 (w7.alloc (.cells #[.bool ng, .slice am nl cm, .slice a7 n7 c7] 104)) u2) (w7.alloc (.cells #[.bool ng, .slice am nl cm, .slice a7 n7 c7] 104)) (#[.bool ng, .slice am nl cm, .slice a7 n7 c7] : Array Value).toList [⟨ofI z, x.t.m⟩] := by
                      rw [HNG.out]
                      refine CellsT.single (t := ⟨ofI z, x.t.m⟩) ((HU7.out _ ((HXR.out.trans HX7.out).alloc _)).to (Kept.refl _ _) (fun j hj => ⟨⟨Nat.le_trans HX.out.size hj.1.1, hj.1.2⟩, fun e => ?_⟩)) ((HP7.out.ext (Ext.alloc (Ext.refl w7) _) (fun j hj => hj.2)).to (Kept.refl _ _) (fun j hj => ⟨⟨Nat.le_trans (HX.out.trans HX40.out).size hj.1, by rw [size_alloc]; have := hj.2; omega⟩, fun e => ?_⟩))
                      · have h1 := (HW.out.lt _ e.symm).2
                        have h2 := hj.1.1
                        omega
                      · have h1 := (HW.out.lt _ e.symm).2
                        have h2 := hj.1
                        have h3 := HX40.out.size
                        simp at h2
                        omega
                    have hall := HY7.out.append hone
                    have e : ofP (ps ++ [(z, x.t.m)]) = ofP ps ++ [⟨ofI z, x.t.m⟩] := by unfold ofP; rw [List.map_append]; rfl
                    show CellsT _ _ _ _
                    rw [e]
                    exact newOff_grown hall HG9.out HBK.out (Nat.le_refl _)
                  · show _ = _; rw [HKK.out]; simp
                  · have h1 := HCO.out _ (HCOL.out z' hz')
                    rw [show oneP z x.t.m = [(z, x.t.m)] by unfold oneP; rw [if_neg hz]] at h1
                    simpa using h1
                  · simp; omega
                case measure => have h2 := HMC.out.2; simp only [sliceLen]; omega
          | cons y r2 =>
            have hcm : cn < m + 1 := by rw [HCN.out, HMR.out, HR12.out]; simp
            have q1' : decide ((cn : Int) < (m : Int) + 1) = true := decide_eq_true (by omega)
            have q2' : (cn : Int) < (m : Int) + 1 := by omega
            have q3' : (0 : Int) ≤ (cn : Int) := by omega
            have hyq : q[q1.length + cn]? = some y := by
              rw [HCN.out, HQ.out, HR12.out, show q1 ++ x :: (r1 ++ y :: r2) = (q1 ++ x :: r1) ++ y :: r2 by simp, show q1.length + (r1.length + 1) = (q1 ++ x :: r1).length by simp]
              exact at_len _ _ _
            have L0 := fun Y : Later wr => ((HS2.out.later (HX25.out.trans Y.h)).get3 hyq).1
            simp only [Nat.zero_add, Nat.add_mul] at L0
            have LX := fun Y : Later wr => Y.h.cell d2
            have a2 := fun Y => (L0 Y).2.2
            have HYC := hid (fun W (hW : Ext wr W) => L0 ⟨W, hW⟩)
            have hod := orderM_may y.may x.may
            have CO := hid (fun Y : Later wr => poly_order (S := S) (.slice y.c.oa y.c.on y.c.oc) (.slice x.c.oa x.c.on x.c.oc) y.t.m x.t.m Y.w' (y.ho.to (HKS.out _ (HX25.out.trans Y.h)).1 (fun _ h => h)) (x.ho.to (HKS.out _ (HX25.out.trans Y.h)).1 (fun _ h => h)) (HKS.out _ (HX25.out.trans Y.h)).2)
            obtain ⟨od1, od2⟩ := orderM_range y.t.m x.t.m
            have HOD := hid hod
            generalize orderM y.t.m x.t.m = od at *
            clear hod L0 hyq
            by_cases h0 : od = 0
            · have h0b : (od == 0) = true := by rw [beq_iff_eq]; exact h0
              have H0 := hid h0
              clear h0
              go_wp2
              refine wp_region_later (by kernel_rfl) (by kernel_rfl) ?_
              repeat (go_big_quiet_step (first | (go_at_call 124; exact Later.done (CO.out _))))
              refine wpQuiet_nil ?_
              intro W2 hW2
              have HW2 := hid hW2
              have HBL : Hid (w3.heap.size < wr.heap.size) := hid (lt_of_cell k0)
              have HLZ : Hid ((ofI z).mag.length ≤ 40000000000000) := hid (by
                rw [ofI_len, HZ.out]
                refine Nat.le_trans (sum_len (k := L) ?_ ?_ ?_) (by omega)
                · exact lenI_mono (valI_len x.hm.lt) (HLX.out x HXQ.out)
                · intro u hu
                  obtain ⟨t, ht, rfl⟩ := List.mem_map.1 hu
                  obtain ⟨y', hy', rfl⟩ := List.mem_map.1 ht
                  exact lenI_mono (valI_len y'.hm.lt) (HLX.out y' (by rw [HQ.out, HR12.out]; simp [hy']))
                · have h1 := HMR.out
                  have h2 := HQN.out
                  rw [HQ.out] at h2
                  rw [HR12.out] at h1 h2
                  have hB2 : B32 ^ 2 = 18446744073709551616 := by decide
                  rw [hB2]
                  simp [toQ, toP] at h1 h2 ⊢
                  omega)
              have CA2 := hid (fun W (hW : Ext W2 W) => whole_add (S := fun k => S k ∨ NewBut w4 wr w3.heap.size k) (.agg #[.bool ng, .slice am nl cm]) (.agg #[.bool y.c.neg, .slice y.c.ma y.c.mn y.c.mc]) (ofI z) y.t.c W ⟨_, by rw [HNG.out], HU5.out.to (Kept.ext (HW2.out.trans hW) (fun k hk => hk.1.2)) (fun k hk => .inr hk)⟩ ⟨_, by rw [y.neg], y.hm.to (HKS.out _ (HX25.out.trans (HW2.out.trans hW))).1 (fun k hk => .inl hk)⟩ (fun k hk => by
                rcases hk with hk | hk
                · exact (HKS.out _ (HX25.out.trans (HW2.out.trans hW))).2 k hk
                · exact Nat.lt_of_lt_of_le hk.1.2 (HW2.out.trans hW).size) HLZ.out (by have := HLX.out y (by rw [HQ.out, HR12.out]; simp); omega))
              have hd := hW2.drew
              have s0 := hW2.cell k0
              have s1 := hW2.cell k1
              obtain ⟨s2, s3, -⟩ := HYC.out _ hW2
              have HFR := hid (fun W (hW : Ext wr W) => And.intro (hW.cell k0) (And.intro (hW.cell k1) (And.intro (hW.free HBL.out k2) (hW.free HBL.out k3))))
              have HWD := hid hd
              have HX20 := hid ((Ext.refl W2).drew)
              clear a2 LX k0 k1 k2 k3 d0 d1 d2 CO hW2 hd q1' q2' q3'
              have q2' : (cn : Int) < (m : Int) + 1 := by omega
              have q3' : (0 : Int) ≤ (cn : Int) := by omega
              go_wp2_with fail
              go_region_with (first
                  | (go_at_call 127; (with_reducible refine (CA2.out _ HX20.out).mono ?_); rintro e w5 ⟨v5, rfl, ⟨vm5, rfl, hu5⟩, hx5⟩; have HX5' := hid (HWD.out.trans hx5); obtain ⟨e0, e1, e2, e3⟩ := HFR.out _ HX5'.out; rw [valI_ofI] at hu5 ⊢; have HU6 := hid hu5; obtain ⟨am5, cm5, rfl⟩ := hu5.form; obtain ⟨ng5, hng5⟩ : ∃ b, b = (ofI (z + valI y.t.c)).neg := ⟨_, rfl⟩; obtain ⟨nl5, hnl5⟩ : ∃ b, b = (ofI (z + valI y.t.c)).mag.length := ⟨_, rfl⟩; rw [← hng5, ← hnl5]; rw [← hnl5] at HU6; have HNG5 := hid hng5; have HNL5 := hid hnl5; have HE5 := hid (And.intro e0 (And.intro e1 (And.intro e2 e3))); have HX55 := hid hx5; clear hu5 hx5 hng5 hnl5))
              all_goals
                go_wp2
                go_roundw
                case rel =>
                  refine ⟨r1 ++ [y], r2, cn + 1, z + valI y.t.c, ng5, am5, nl5, cm5, ?_, by go_num, ?_, by omega, ?_, ?_, HNG5.out, HNL5.out, HX5.out.trans ((Ext.refl wr).trans (HX5'.out)) |>.set2 HBX.out _ _, (two_set _ _ HE5.out.1 HE5.out.2.1).1, (two_set _ _ HE5.out.1 HE5.out.2.1).2, free_set (free_set HE5.out.2.2.1), free_set (free_set HE5.out.2.2.2), ?_⟩
                  · show _ = _; rw [HR12.out]; simp
                  · show _ = _; rw [HCN.out]; simp
                  · intro u hu
                    rcases List.mem_append.1 hu with hu | hu
                    · exact HSM.out u hu
                    · rw [List.mem_singleton.1 hu]
                      have h1 := HOD.out
                      rw [H0.out] at h1
                      exact (compareM_zero y.may x.may).1 h1.symm
                  · show _ = _
                    rw [HZ.out, show toQ (r1 ++ [y]) = toQ r1 ++ [(valI y.t.c, y.t.m)] by simp [toQ, toP], sumP_snoc]
                    simp only
                    omega
                  · refine hid (HU6.out.to (Kept.set2 (fun h => ?_) _ _) (fun k hk => ⟨⟨?_, ?_⟩, ?_⟩))
                    · have h1 := h.1
                      have h2 := HW2.out.size
                      have h3 := HBL.out
                      simp at h1
                      omega
                    · have h1 := hk.1
                      have h2 := HW2.out.size
                      have h3 := HX5.out.size
                      simp at h1
                      omega
                    · rw [size_set2]; exact hk.2
                    · have h1 := hk.1
                      have h2 := HW2.out.size
                      have h3 := HBL.out
                      simp at h1
                      omega
                case measure => simp only [intOf]; omega
            · have h0b : (od == 0) = false := by rw [beq_eq_false_iff_ne]; exact h0
              have HEX : Hid (∀ u ∈ (toQ (y :: r2)).head?, u.2 ≠ x.t.m) := hid (fun u hu => by
                simp [toQ, toP] at hu
                subst hu
                intro e
                simp only at e
                have h1 := HOD.out
                rw [e, compareM_self _ x.may] at h1
                exact h0 h1)
              have H0 := hid h0
              clear h0
              go_wp2
              refine wp_region_later (by kernel_rfl) (by kernel_rfl) ?_
              repeat (go_big_quiet_step (first | (go_at_call 124; exact Later.done (CO.out _))))
              refine wpQuiet_nil ?_
              intro W2 hW2
              have HW2 := hid hW2
              clear a2 LX CO q1' q2' q3'
              have HBL : Hid (w3.heap.size < wr.heap.size) := hid (lt_of_cell k0)
              have hk0 := hW2.cell k0
              have hk1 := hW2.cell k1
              have HLZ : Hid ((ofI z).mag.length ≤ 40000000000000) := hid (by
                rw [ofI_len, HZ.out]
                refine Nat.le_trans (sum_len (k := L) ?_ ?_ ?_) (by omega)
                · exact lenI_mono (valI_len x.hm.lt) (HLX.out x HXQ.out)
                · intro u hu
                  obtain ⟨t, ht, rfl⟩ := List.mem_map.1 hu
                  obtain ⟨y', hy', rfl⟩ := List.mem_map.1 ht
                  exact lenI_mono (valI_len y'.hm.lt) (HLX.out y' (by rw [HQ.out, HR12.out]; simp [hy']))
                · have h1 := HMR.out
                  have h2 := HQN.out
                  rw [HQ.out] at h2
                  rw [HR12.out] at h1 h2
                  have hB2 : B32 ^ 2 = 18446744073709551616 := by decide
                  rw [hB2]
                  simp [toQ, toP] at h1 h2 ⊢
                  omega)
              have HMC : Hid (m + 1 - cn = (y :: r2).length ∧ cn = r1.length + 1) := hid (by
                have h1 := HMR.out
                rw [HR12.out] at h1
                have h2 := HCN.out
                simp at h1 ⊢
                omega)
              have HCOL : Hid (∀ z', Coll (toQ (y :: r2)) z' → Coll (toQ (x :: r)) (oneP z x.t.m ++ z')) := hid (fun z' hz' => by
                have h1 := Coll.group (valI x.t.c, x.t.m) (toQ r1) (toQ (y :: r2)) z' (fun u hu => by
                  obtain ⟨t, ht, rfl⟩ := List.mem_map.1 hu
                  obtain ⟨y', hy', rfl⟩ := List.mem_map.1 ht
                  exact HSM.out y' hy') HEX.out hz'
                rw [HZ.out, HR12.out]
                have e : toQ (x :: (r1 ++ (y :: r2))) = (valI x.t.c, x.t.m) :: toQ r1 ++ toQ (y :: r2) := by simp [toQ, toP]
                rw [e]
                exact h1)
              have CS := hid (whole_sign (S := NewBut w4 wr w3.heap.size) (.agg #[.bool ng, .slice am nl cm]) (ofI z) W2 ⟨_, by rw [HNG.out], HU5.out.to (Kept.ext hW2 (fun k hk => hk.1.2)) (fun _ h => h)⟩ (fun k hk => Nat.lt_of_lt_of_le hk.1.2 hW2.size) (by have := HLZ.out; omega))
              have HD2 := hid (And.intro (hW2.cell d0) (And.intro (hW2.cell d1) (hW2.cell d2)))
              have hsgv : signI (valI (ofI z)) = signI z := by rw [valI_ofI]
              clear k0 k1 k2 k3 d0 d1 d2 hW2
              go_wp2_with fail
              with_reducible refine CS.out.mono ?_
              rw [hsgv]
              rintro e w6 ⟨rfl, hx6⟩
              have HX6 := hid (HW2.out.trans hx6)
              obtain ⟨sg, hsg⟩ : ∃ s, s = signI z := ⟨_, rfl⟩
              rw [← hsg]
              have hsr : -1 ≤ sg ∧ sg ≤ 1 := by rw [hsg]; unfold signI; rcases cmpI_cases z 0 with h | h | h <;> omega
              obtain ⟨hsr1, hsr2⟩ := hsr
              have HSG2 := hid hsg
              have hk0' := hx6.cell hk0
              have hk1' := hx6.cell hk1
              have hcm1 : cn ≤ m + 1 := hrm
              by_cases hz : z = 0
              · have hb : (sg != 0) = false := by rw [hsg, hz]; decide
                have HZZ := hid hz
                clear hk0 hk1 hsgv hsg hz hx6
                go_wp2
                go_roundw
                case rel =>
                  refine ⟨q1 ++ x :: r1, (y :: r2), _, m + 1 - cn, cl - cn, k, ys, ps, ?_, rfl, HMC.out.1, ?_, by omega, by omega, HX.out.trans (HX5.out.trans HX6.out), own_ext HW.out (HX5.out.trans HX6.out), newOff_ext HY.out (HX5.out.trans HX6.out), HKK.out, fun z' hz' => ?_, ?_⟩
                  · show _ = _; rw [HQ.out, HR12.out]; simp
                  · intro h
                    have h2 := HMC.out.2
                    try rw [if_neg (by omega)]
                    congr 2
                    simp
                    omega
                  · have h1 := HCOL.out z' hz'
                    rw [HZZ.out] at h1
                    exact HCO.out z' h1
                  · simp; omega
                case measure => have h2 := HMC.out.2; simp only [sliceLen]; omega
              · have hb : (sg != 0) = true := by
                  rw [hsg, bne_iff_ne]
                  unfold signI cmpI
                  split <;> (try split) <;> omega
                clear hk0 hk1 hsgv hsg hx6
                have hx40 : Ext w4 w6 := HX5.out.trans HX6.out
                have HX40 := hid hx40
                have HXR := hid ((Ext.refl w6).drew)
                have HXD := hid hx40.drew
                have S0 : _ ∧ _ ∧ _ := And.intro (HXR.out.cell hk0') (And.intro (HXR.out.cell hk1') ((hx40.drew).cell c2))
                have HU7 : Hid (∀ W, Ext w6 W → U32s (NewBut w4 W w3.heap.size) W (.slice am nl cm) (ofI z).mag) := hid (fun W hW => HU5.out.to (Kept.ext (HX6.out.trans hW) (fun k hk => hk.1.2)) (fun k hk => ⟨⟨hk.1.1, Nat.lt_of_lt_of_le hk.1.2 (HX6.out.trans hW).size⟩, hk.2⟩))
                have CCL := hid (clone_mono (S := S) (.slice x.c.oa x.c.on x.c.oc) x.t.m w6.drew (x.ho.to (HKS.out _ (HX.out.trans HXD.out)).1 (fun _ h => h)) (HKS.out _ (HX.out.trans HXD.out)).2 (Nat.le_trans (mayM_len x.may) (by decide)))
                have HWR := hid (own_ext HW.out HXD.out)
                have HYR := hid (newOff_ext HY.out HXD.out)
                have HKC6 := hid (And.intro hk0' hk1')
                have HB3 : Hid (k + 1 ≤ maxLen) := hid (by have h1 := HQN.out; rw [HQ.out] at h1; simp at h1; unfold maxLen; omega)
                have HB4 : Hid ((k + 1) * 56 ≤ 140737488355328) := hid (by have h1 := HQN.out; rw [HQ.out] at h1; simp at h1; omega)
                have HXDD := hid (HX.out.trans HXD.out)
                clear hx40 hk0' hk1'
                have HKB : Hid (some w3.heap.size ≠ u2.ownBlock) := hid (fun e => by have h1 := (HW.out.lt _ e.symm).2; have h2 := HBX.out; omega)
                have HKG : Hid (some g ≠ u2.ownBlock) := hid (fun e => by have h1 := (HW.out.lt _ e.symm).1; have h2 := HS2.out.old; have h3 := HS2.out.grown.size; omega)
                have hcn : 0 < m + 1 := Nat.succ_pos m
                go_wp2_with fail
                go_region_held3 (fun W => W.cell? ⟨w3.heap.size, 0, none⟩ = some (.bool ng) ∧ W.cell? ⟨w3.heap.size, 1, none⟩ = some (.slice am nl cm) ∧ W.cell? ⟨g, q1.length * 3 + 2, none⟩ = some (.slice x.c.oa x.c.on x.c.oc)) (first | exact S0 | exact S7 | exact ⟨cell_old _ S7.1, cell_old _ S7.2.1, cell_old _ S7.2.2⟩ | exact S9)
                  (first
                    | (go_at_call 128; (with_reducible refine CCL.out.mono ?_); rintro e w7 ⟨v7, rfl, hp7, hx7⟩; have HX7 := hid hx7; have S7 : _ ∧ _ ∧ _ := And.intro (HX7.out.cell S0.1) (And.intro (HX7.out.cell S0.2.1) (HX7.out.cell S0.2.2)); have HP7 := hid hp7; obtain ⟨a7, c7, rfl⟩ := hp7.form; obtain ⟨n7, hn7⟩ : ∃ n, n = x.t.m.length := ⟨_, rfl⟩; rw [← hn7]; rw [← hn7] at HP7; have HN7 := hid hn7
                       have HW7 := hid (own_ext (own_ext HWR.out HX7.out) (Ext.alloc (Ext.refl w7) (.cells #[.bool ng, .slice am nl cm, .slice a7 n7 c7] 104))); have HY7 := hid (newOff_ext (newOff_ext HYR.out HX7.out) (Ext.alloc (Ext.refl w7) (.cells #[.bool ng, .slice am nl cm, .slice a7 n7 c7] 104))); have HSRC7 := hid (src_one w7 #[.bool ng, .slice am nl cm, .slice a7 n7 c7] 104 (three_cell rfl rfl rfl) rfl); have HB5 := hid (Nat.le_trans (HXDD.out.trans HX7.out).size (World.grownBy_alloc w7 (.cells #[.bool ng, .slice am nl cm, .slice a7 n7 c7] 104) none).size); have HX27 := hid ((HXDD.out.trans HX7.out).alloc (.cells #[.bool ng, .slice am nl cm, .slice a7 n7 c7] 104)); have HC7 := hid (And.intro (cell_old (.cells #[.bool ng, .slice am nl cm, .slice a7 n7 c7] 104) S7.1) (And.intro (cell_old (.cells #[.bool ng, .slice am nl cm, .slice a7 n7 c7] 104) S7.2.1) (cell_old (.cells #[.bool ng, .slice am nl cm, .slice a7 n7 c7] 104) S7.2.2))); clear hx7 hp7 hn7)
                    | (refine step_append_src rfl (.tmp 47) (.tmp 55) 23 rfl w2.heap.size 104 j0 (.agg #[.bool false, .slice none 0 0, .slice none 0 0]) 3 56 Tryz.underlying23 hj jz0 jz1 jz2 rfl (Nat.succ_pos _) _ k ys rfl HW7.out (some ⟨w7.heap.size, 0, none⟩) 1 1 _ rfl HSRC7.out HB3.out HB4.out HB5.out ?_; intro v9 w9 hown hg hbk; have HW9 := hid hown; have HG9 := hid hg; have HBK := hid hbk; have HX9 := hid (own_grown0 HX27.out HW7.out hg); have S9 : _ ∧ _ ∧ _ := And.intro (hg.cell HC7.out.1 HKB.out) (And.intro (hg.cell HC7.out.2.1 HKB.out) (hg.cell HC7.out.2.2 HKG.out)); clear hown hg hbk))
                all_goals
                  go_wp2
                  go_roundw
                  case rel =>
                    refine ⟨q1 ++ x :: r1, (y :: r2), _, m + 1 - cn, cl - cn, k + 1, ys ++ (#[.bool ng, .slice am nl cm, .slice a7 n7 c7] : Array Value).toList, ps ++ [(z, x.t.m)], ?_, rfl, HMC.out.1, ?_, by omega, by omega, HX9.out, HW9.out, ?_, ?_, fun z' hz' => ?_, ?_⟩
                    · show _ = _; rw [HQ.out, HR12.out]; simp
                    · intro h
                      have h2 := HMC.out.2
                      try rw [if_neg (by omega)]
                      congr 2
                      simp
                      omega
                    · have hone : CellsT (NewOff w2 (w7.alloc (.cells #[.bool ng, .slice am nl cm, .slice a7 n7 c7] 104)) u2) (w7.alloc (.cells #[.bool ng, .slice am nl cm, .slice a7 n7 c7] 104)) (#[.bool ng, .slice am nl cm, .slice a7 n7 c7] : Array Value).toList [⟨ofI z, x.t.m⟩] := by
                        rw [HNG.out]
                        refine CellsT.single (t := ⟨ofI z, x.t.m⟩) ((HU7.out _ ((HXR.out.trans HX7.out).alloc _)).to (Kept.refl _ _) (fun j hj => ⟨⟨Nat.le_trans HX.out.size hj.1.1, hj.1.2⟩, fun e => ?_⟩)) ((HP7.out.ext (Ext.alloc (Ext.refl w7) _) (fun j hj => hj.2)).to (Kept.refl _ _) (fun j hj => ⟨⟨Nat.le_trans (HX.out.trans HX40.out).size hj.1, by rw [size_alloc]; have := hj.2; omega⟩, fun e => ?_⟩))
                        · have h1 := (HW.out.lt _ e.symm).2
                          have h2 := hj.1.1
                          omega
                        · have h1 := (HW.out.lt _ e.symm).2
                          have h2 := hj.1
                          have h3 := HX40.out.size
                          simp at h2
                          omega
                      have hall := HY7.out.append hone
                      have e : ofP (ps ++ [(z, x.t.m)]) = ofP ps ++ [⟨ofI z, x.t.m⟩] := by unfold ofP; rw [List.map_append]; rfl
                      show CellsT _ _ _ _
                      rw [e]
                      exact newOff_grown hall HG9.out HBK.out (Nat.le_refl _)
                    · show _ = _; rw [HKK.out]; simp
                    · have h1 := HCO.out _ (HCOL.out z' hz')
                      rw [show oneP z x.t.m = [(z, x.t.m)] by unfold oneP; rw [if_neg hz]] at h1
                      simpa using h1
                    · simp; omega
                  case measure => have h2 := HMC.out.2; simp only [sliceLen]; omega
end Go.Proofs.YtcpfeepnfodifaaGreat
