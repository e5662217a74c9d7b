/- The document: out of terms, sums, a number, a variable, too great. -/
import Derived.Test.YthplgldclilccaaRefPut
namespace Go.Proofs.Ythplgldclilccaa
open Go.RowKit

theorem putP_may {p : PZ} {c : Int} {m : Mono} (hp : mayAll p) (hm : mayM m = true) : mayAll (putP p c m) := fun t ht => by
  rcases putP_mem ht with h | h
  · exact hp t h
  · rw [h]; exact hm
theorem addP_may {p l : PZ} (hp : mayAll p) (hl : mayAll l) : mayAll (addP p l) := by
  induction l generalizing p with
  | nil => exact hp
  | cons t r ih => exact ih (putP_may hp (hl t (by simp))) (fun u hu => hl u (by simp [hu]))
theorem addP_snoc (p l : PZ) (t : Int × Mono) : addP p (l ++ [t]) = putP (addP p l) t.1 t.2 := by
  unfold addP
  rw [List.foldl_append]
  rfl
theorem may_take {l : PZ} (h : mayAll l) (k : Nat) : mayAll (l.take k) := fun t ht => h t (List.mem_of_mem_take ht)
theorem toP_at {ts : List RTerm} {k : Nat} {t : RTerm} (h : ts[k]? = some t) : (toP ts).take (k + 1) = (toP ts).take k ++ [(valI t.c, t.m)] := by
  rw [List.take_add_one]
  unfold toP
  rw [List.getElem?_map, h]
  rfl
theorem plus_plus {S : Nat → Prop} {w w1 w2 : World} (h1 : Ext w w1) (h2 : Ext w1 w2) : ∀ k, Plus (Plus S w w1) w1 w2 k → Plus S w w2 k := fun k hk => by
  rcases hk with (h | h) | h
  · exact .inl h
  · exact .inr ⟨h.1, Nat.lt_of_lt_of_le h.2 h2.size⟩
  · exact .inr ⟨Nat.le_trans h1.size h.1, h.2⟩
theorem new_plus {S : Nat → Prop} {w w1 w2 : World} (h1 : w.heap.size ≤ w1.heap.size) : ∀ k, New w1 w2 k → Plus S w w2 k := fun k hk => .inr ⟨Nat.le_trans h1 hk.1, hk.2⟩
theorem RTs.later {S : Nat → Prop} {w w1 w2 : World} {v : Value} {p : PZ} (hS : ∀ k, S k → k < w.heap.size) (h : RTs (Plus S w w1) w1 v p) (h1 : Ext w w1) (h2 : Ext w1 w2) : RTs (Plus S w w2) w2 v p :=
  h.to (Kept.ext h2 (plus_lt hS h1)) (plus_grow h2.size)
theorem toP_length (ts : List RTerm) : (toP ts).length = ts.length := by unfold toP; rw [List.length_map]

set_option maxRecDepth 100000 in
set_option maxHeartbeats 8000000 in
theorem rpoly_of {S : Nat → Prop} (v : Value) (ts : List RTerm) (w : World) (h : Terms S w v ts) (hS : ∀ k, S k → k < w.heap.size) (hr : tinyT ts) (hmay : mayAll (toP ts)) (hsz : ∀ k, k ≤ ts.length → szP (addP [] ((toP ts).take k))) :
    Calls Try.prog 36 #[v] w fun e w' => ∃ v', e = .returned v' ∧ RTs (Plus S w w') w' v' (normP (toP ts)) ∧ Ext w w' := by
  have hl := h.len_le
  have H := hid h
  have HR := hid hr
  have HMY := hid hmay
  have HSZ := hid hsz
  have HST := hid (fun k (x : RTerm) => toP_at (ts := ts) (k := k) (t := x))
  obtain ⟨P, hP⟩ : ∃ P, P = toP ts := ⟨_, rfl⟩
  rw [← hP] at HMY HSZ ⊢
  have HP := hid hP
  obtain ⟨a, cap, rfl⟩ := h.form
  clear h hr hmay hsz hP
  go_enter Try.func36, Try.ntmps36
  go_wp2
  go_loopw [3, 4] (fun o i wr => ∃ k : Nat, k ≤ ts.length ∧ i = .int .i64 k ∧ Ext w wr ∧ Hid (RTs (Plus S w wr) wr o (addP [] (P.take k)))) (fun _ i _ => ts.length - (intOf i).toNat)
  case atStart => exact ⟨0, Nat.zero_le _, rfl, Ext.refl _, hid (RTs.nilv _ _ _ _ (by omega))⟩
  case round =>
    obtain ⟨k, hk, rfl, hx, HO⟩ := hrel
    have HX := hid hx
    by_cases hlt : k < ts.length
    · obtain ⟨t, ht⟩ := some_of_lt hlt
      obtain ⟨b, off, vm, vo, rfl, -, hn1, hm1, hSb, h1, h2, h3, h4, h5⟩ := H.out.cellAt ht
      have hsm := HR.out t (List.mem_of_getElem? ht)
      have HTK := hid (HST.out k t ht)
      have HTM : Hid (mayM t.m = true) := hid (HMY.out (valI t.c, t.m) (by rw [HP.out]; exact List.mem_map.2 ⟨t, List.mem_of_getElem? ht, rfl⟩))
      have HV : Hid (szZ (valI t.c)) := hid (szZ_of h4.lt hsm)
      obtain ⟨⟨ng, zs⟩, m⟩ := t
      simp only at h1 h2 h3 h4 h5 hsm HTM HV HTK
      have H4 := hid h4
      have H5 := hid h5
      obtain ⟨am, cm, rfl⟩ := h4.form
      obtain ⟨ao, co, rfl⟩ := h5.form
      have x0 : Ext w wr.drew := hx.drew
      have HX0 := hid x0
      have S0 : _ ∧ _ ∧ _ := And.intro (x0.cell h1) (And.intro (x0.cell h2) (x0.cell h3))
      have C1 := hid (zed_of (S := S) _ ⟨ng, zs⟩ wr.drew (intV_mk (H4.out.ext x0 hS)) (lt_ext hS x0) hsm)
      clear ht h1 h2 h3 h4 h5 hx hsm x0
      go_wp2
      go_region_held3 (fun W => W.cell? ⟨b, off + k * 3, none⟩ = some (.bool ng) ∧ W.cell? ⟨b, off + k * 3 + 1, none⟩ = some (.slice am zs.length cm) ∧ W.cell? ⟨b, off + k * 3 + 2, none⟩ = some (.slice ao m.length co)) (first | exact S0 | exact S1 | exact S2)
        (first
          | (go_at_call 74; (with_reducible refine C1.out.mono ?_); rintro e w1 ⟨v1, rfl, hz1, hx1⟩; have S1 : _ ∧ _ ∧ _ := And.intro (hx1.cell S0.1) (And.intro (hx1.cell S0.2.1) (hx1.cell S0.2.2)); have HX1 : Hid (Ext w w1) := hid (HX0.out.trans hx1); have C2 := hid (rpoly_put (S := Plus S w w1) _ _ _ (addP [] (P.take k)) (valI ⟨ng, zs⟩) m w1 (plus_lt hS HX1.out) (RTs.later hS HO.out HX.out (((Ext.refl wr).drew).trans hx1)) (hz1.to (Kept.refl _ _) (new_plus HX0.out.size)) ((H5.out.ext HX1.out hS).to (Kept.refl _ _) (fun _ h => .inl h)) (addP_may (p := []) canP_nil.may (may_take HMY.out k)) HTM.out (HSZ.out k hk) HV.out); clear hx1 hz1)
          | (go_at_call 70; (with_reducible refine C2.out.mono ?_); rintro e w2 ⟨v2, rfl, hp2, hx2⟩; have S2 : _ ∧ _ ∧ _ := And.intro (hx2.cell S1.1) (And.intro (hx2.cell S1.2.1) (hx2.cell S1.2.2)); have HX2 := hid (HX1.out.trans hx2); have HP2 := hid (hp2.to (Kept.refl _ _) (plus_plus HX1.out hx2)); clear hx2 hp2))
      go_wp2
      go_roundw
      case rel => exact ⟨k + 1, by omega, by go_num, HX2.out, hid (by rw [HP.out, HTK.out, addP_snoc, ← HP.out]; exact HP2.out)⟩
      case measure => simp only [intOf]; omega
    · obtain rfl : k = ts.length := by omega
      have HE : Hid (addP [] (P.take ts.length) = normP P) := hid (by rw [List.take_of_length_le (by rw [HP.out, toP_length]; exact Nat.le_refl _)]; rfl)
      clear hx
      go_wp2
      all_goals
        go_ret
        exact ⟨_, rfl, by rw [← HE.out]; exact HO.out, HX.out⟩

set_option maxRecDepth 100000 in
set_option maxHeartbeats 8000000 in
theorem rpoly_add {S : Nat → Prop} (vp vq : Value) (p q : PZ) (w : World) (hS : ∀ k, S k → k < w.heap.size) (hp : RTs S w vp p) (hq : RTs S w vq q) (hmp : mayAll p) (hmq : mayAll q) (hszq : szP q) (hsz : ∀ k, k ≤ q.length → szP (addP p (q.take k))) :
    Calls Try.prog 33 #[vp, vq] w fun e w' => ∃ v', e = .returned v' ∧ RTs (Plus S w w') w' v' (addP p q) ∧ Ext w w' := by
  have hl := hq.len_le
  have HP := hid hp
  have HQ := hid hq
  have HMP := hid hmp
  have HMQ := hid hmq
  have HZQ := hid hszq
  have HSZ := hid hsz
  obtain ⟨ap, cp, rfl⟩ := hp.form
  obtain ⟨aq, cq, rfl⟩ := hq.form
  clear hp hq hmp hmq hszq hsz
  go_enter Try.func33, Try.ntmps33
  go_wp2
  go_loopw [5, 6] (fun o i wr => ∃ k : Nat, k ≤ q.length ∧ i = .int .i64 k ∧ Ext w wr ∧ Hid (RTs (Plus S w wr) wr o (addP p (q.take k)))) (fun _ i _ => q.length - (intOf i).toNat)
  case atStart => exact ⟨0, Nat.zero_le _, rfl, Ext.refl _, hid (HP.out.to (Kept.refl _ _) (fun _ h => .inl h))⟩
  case round =>
    obtain ⟨k, hk, rfl, hx, HO⟩ := hrel
    have HX := hid hx
    by_cases hlt : k < q.length
    · obtain ⟨t, ht⟩ := some_of_lt hlt
      obtain ⟨b, off, vd, vo, rfl, -, hn1, hm1, hSb, h1, h2, h3, h4, h5⟩ := HQ.out.cellAt ht
      have HTK : Hid (q.take (k + 1) = q.take k ++ [t]) := hid (by rw [List.take_add_one, ht]; rfl)
      have HTM := hid (HMQ.out t (List.mem_of_getElem? ht))
      have HV := hid (HZQ.out.2 t (List.mem_of_getElem? ht))
      have H4 := hid h4
      have H5 := hid h5
      obtain ⟨am, cm, rfl⟩ := h4.form
      obtain ⟨ao, co, rfl⟩ := h5.form
      have x0 : Ext w wr.drew := hx.drew
      have HX0 := hid x0
      have S0 : _ ∧ _ ∧ _ := And.intro (x0.cell h1) (And.intro (x0.cell h2) (x0.cell h3))
      have c2 := rpoly_put (S := Plus S w wr.drew) _ _ _ (addP p (q.take k)) t.1 t.2 wr.drew (plus_lt hS x0) (RTs.later hS HO.out HX.out ((Ext.refl wr).drew)) (show ZV (Plus S w wr.drew) wr.drew (.agg #[.bool (decide (t.1 < 0)), .slice am (rep 10 t.1.natAbs).length cm]) t.1 from ⟨_, rfl, H4.out.to (Kept.ext HX0.out hS) (fun _ h => .inl h)⟩) (H5.out.to (Kept.ext HX0.out hS) (fun _ h => .inl h)) (addP_may HMP.out (may_take HMQ.out k)) HTM.out (HSZ.out k hk) HV.out
      obtain ⟨bt, hbt⟩ : ∃ b, b = decide (t.1 < 0) := ⟨_, rfl⟩
      obtain ⟨nt, hnt⟩ : ∃ n, n = (rep 10 t.1.natAbs).length := ⟨_, rfl⟩
      obtain ⟨nm, hnm⟩ : ∃ n, n = t.2.length := ⟨_, rfl⟩
      rw [← hbt, ← hnt, ← hnm] at S0
      rw [← hbt, ← hnt, ← hnm] at c2
      have C2 := hid c2
      clear ht h1 h2 h3 h4 h5 hx x0 c2 H4 H5 hbt hnt hnm
      go_wp2
      go_region_held3 (fun W => W.cell? ⟨b, off + k * 3, none⟩ = some (.bool bt) ∧ W.cell? ⟨b, off + k * 3 + 1, none⟩ = some (.slice am nt cm) ∧ W.cell? ⟨b, off + k * 3 + 2, none⟩ = some (.slice ao nm co)) (first | exact S0 | exact S2)
        (first
          | (go_at_call 70; (with_reducible refine C2.out.mono ?_); rintro e w2 ⟨v2, rfl, hp2, hx2⟩; have S2 : _ ∧ _ ∧ _ := And.intro (hx2.cell S0.1) (And.intro (hx2.cell S0.2.1) (hx2.cell S0.2.2)); have HX2 := hid (HX0.out.trans hx2); have HP2 := hid (hp2.to (Kept.refl _ _) (plus_plus HX0.out hx2)); clear hx2 hp2))
      go_wp2
      go_roundw
      case rel => exact ⟨k + 1, by omega, by go_num, HX2.out, hid (by rw [HTK.out, addP_snoc]; exact HP2.out)⟩
      case measure => simp only [intOf]; omega
    · obtain rfl : k = q.length := by omega
      have HE : Hid (addP p (q.take q.length) = addP p q) := hid (by rw [List.take_length])
      clear hx
      go_wp2
      all_goals
        go_ret
        exact ⟨_, rfl, by rw [← HE.out]; exact HO.out, HX.out⟩
end Go.Proofs.Ythplgldclilccaa
