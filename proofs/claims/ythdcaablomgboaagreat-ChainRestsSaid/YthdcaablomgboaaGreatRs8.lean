/- A polynomial times a term; a variable's power. The program's division: the head, a power, the other sign, the term of a step. The program's division: a step's term, and products with the head. The program's division: what is told behind a step. The program's division: one step. Pseudo-division, plain: what a whole division answers: the identity, degrees, how many steps; with a meter as without one. Pseudo-division of a product by one of its factors, plain: no rest; as many steps as the other factor has terms, at most. Pseudo-division, plain: powers, sizes of what is told, and how the statements' equations come about. The program's division: its beginning, all its steps, and what is told. The program's division: all its steps. The program's division, as it is asked. The document: is it the same data? What layer 9's law knows. What layer 12's law knows. -/
import Derived.Test.YthdcaablomgboaaGreatRs7
set_option maxRecDepth 100000
set_option maxHeartbeats 16000000
namespace Go.Proofs.YthdcaablomgboaaGreat
section
open Go.RowKit
theorem zgi {w : World} {vm vo : Value} {t : RTerm} (h1 : U32s (Old w) w vm t.c.mag) (h2 : Pows (Old w) w vo t.m) (T : TypeId) :
  z05 (Old (w.alloc (.cells #[.bool t.c.neg, vm, vo] T))) (w.alloc (.cells #[.bool t.c.neg, vm, vo] T)) (.slice (some ⟨w.heap.size, 0, none⟩) 1 1) [t] := by
 have hx : Ext w (w.alloc (.cells #[.bool t.c.neg, vm, vo] T)) := Ext.alloc (Ext.refl w) _
 refine ⟨w.heap.size, 0, ⟨_, 1, rfl, Nat.le_refl _, by decide, fun _ => rfl, fun _ => by show w.heap.size < (w.alloc _).heap.size; rw [z02]; omega⟩, fun j u hj => ?_⟩
 have hj2 := z04 hj
 simp only [List.length_cons, List.length_nil] at hj2
 match j, hj with
 | 0, hj =>
  obtain rfl : t = u := by simpa using hj
  exact ⟨vm, vo, z01 _ _ _ rfl rfl, z01 _ _ _ rfl rfl, z01 _ _ _ rfl rfl, h1.to (Kept.ext hx (fun _ h => h)) (fun k h => Nat.lt_of_lt_of_le h hx.size), h2.to (Kept.ext hx (fun _ h => h)) (fun k h => Nat.lt_of_lt_of_le h hx.size)⟩
 | j + 1, _ => omega
def oneZ (c : Int) (m : Mono) : PZ := if c = 0 then [] else [(c, m)]
theorem zjd (c : Int) (m : Mono) : z0m [(c, m)] = oneZ c m := by
 unfold oneZ
 show putP [] c m = _
 rfl
theorem zs7 {c : Int} {m : Mono} (h : mayM m = true) : canP (oneZ c m) := by
 unfold oneZ
 split
 ·exact z2f
 ·rename_i h0
  exact ⟨fun t ht => by rw [List.mem_singleton.1 ht]; exact ⟨h0, h⟩, List.pairwise_singleton _ _⟩
theorem zvl {c : Int} {m : Mono} {k : Nat} (h : mayM m = true) (hk : lenI c ≤ k) : Fit k 1 (oneZ c m) := by
 refine ⟨zs7 h, fun t ht => ?_, ?_⟩
 ·unfold oneZ at ht
  split at ht
  ·simp at ht
  ·rw [List.mem_singleton.1 ht]; exact z2j hk (Nat.le_refl _)
 ·unfold oneZ
  split <;> simp
theorem zp5 {W : World} {u vc vm : Value} {p : PZ} {c : Int} {m : Mono} {k n l : Nat} (hp : PV W u p) (hc : IntV (Old W) W vc (ofI c)) (hm : Pows (Old W) W vm m) (fp : Fit k n p) (hmm : mayM m = true) (hcl : lenI c ≤ l) (h24 : k < 24 ∨ l < 24) (hk : k ≤ 1000000) (hl : l ≤ 1000000) (hn : n ≤ 1000000000000) :
  Calls Tryz.prog 200 #[u, vc, vm] W (z5p W (z0e p (oneZ c m))) := by
 have hnot : ∀ (x : Bool) (w : World), (Op.unary .not (.bool x)).run Tryz.prog w = .ok (.bool (!x)) w := fun _ _ => rfl
 obtain ⟨vz, rfl, hz⟩ := hc
 have HP := hid hp
 have HZ := hid hz
 have HM := hid hm
 have CM := fun (Y : World) (hY : Ext W Y) => z2s (S := Old W) vm m Y (hm.ext hY (fun _ h => h)) (fun k h => Nat.lt_of_lt_of_le h hY.size)
 simp only [hmm] at CM
 have HCM := hid CM
 have f1 := zvl (m := m) hmm hcl
 have CC := hid (fun (Y : World) (hY : Ext W Y) => z59 (S := Old (Y.alloc (.cells #[.bool (ofI c).neg, vz, vm] 83))) (.slice (some ⟨Y.heap.size, 0, none⟩) 1 1) [⟨ofI c, m⟩] (Y.alloc (.cells #[.bool (ofI c).neg, vz, vm] 83)) 1000000
  (zgi (t := ⟨ofI c, m⟩) ((hz.ext hY (fun _ h => h)).to (Kept.refl _ _) (fun k h => Nat.lt_of_lt_of_le h hY.size)) ((hm.ext hY (fun _ h => h)).to (Kept.refl _ _) (fun k h => Nat.lt_of_lt_of_le h hY.size)) 83) (fun _ h => h) (fun t ht => by rw [List.mem_singleton.1 ht]; exact hmm) (fun t ht => by rw [List.mem_singleton.1 ht]; show (ofI c).mag.length ≤ _; rw [z5e]; omega) (by decide) (by simp))
 have e1 : toP [⟨ofI c, m⟩] = [(c, m)] := by unfold toP; simp [z52]
 simp only [e1, zjd] at CC
 have CT := hid (fun (Y : World) (u2 : Value) (hY : Ext W Y) (hu : PV Y u2 (oneZ c m)) => zeg (hp.on hY) hu fp f1 h24 hk hl (by omega))
 obtain ⟨ap, cp, rfl⟩ := hp.form
 obtain ⟨az, cz, rfl⟩ := hz.form
 obtain ⟨am, cm, rfl⟩ := hm.form
 obtain ⟨np, hnp⟩ : ∃ n, n = (ofP p).length := ⟨_, rfl⟩
 obtain ⟨nz, hnz⟩ : ∃ n, n = (ofI c).mag.length := ⟨_, rfl⟩
 obtain ⟨nm, hnm⟩ : ∃ n, n = m.length := ⟨_, rfl⟩
 obtain ⟨ng, hng⟩ : ∃ n, n = (ofI c).neg := ⟨_, rfl⟩
 rw [← hnp] at CT ⊢
 rw [← hnz, ← hng] at CC ⊢
 rw [← hnm] at CC HCM ⊢
 generalize z0e p (oneZ c m) = o at *
 have HK := hid (Ext.alloc (Ext.refl W) (.cells #[.bool ng, .slice az nz cz] 72))
 clear hp hz hm CM hmm hcl f1 e1 hnp hnz hnm hng
 go_enter Tryz.func200, Tryz.ntmps200
 go_wp2_with fail
 with_reducible refine (HCM.out _ HK.out).mono ?_
 rintro e w1 ⟨rfl, hx1⟩
 have k0 := hx1.new_cell (i := 0) rfl
 have k1 := hx1.new_cell (i := 1) rfl
 have HX1 := hid (HK.out.trans hx1)
 clear hx1
 go_wp2_with fail
 with_reducible refine (CC.out _ HX1.out).mono ?_
 rintro e w2 ⟨v2, rfl, hp2, hx2⟩
 have HX2 := hid ((HX1.out.alloc _).trans hx2)
 have CT2 := hid (CT.out w2 v2 HX2.out (hp2.to (Kept.refl _ _) New.lt))
 obtain ⟨a2, c2, rfl⟩ := hp2.form
 clear hp2 hx2 k0 k1
 go_wp2_with fail
 with_reducible refine CT2.out.mono ?_
 intro e w3 h3
 cases o with
 | none =>
  obtain ⟨rfl, hx3⟩ := h3
  have HX3 := hid (HX2.out.trans hx3)
  clear hx3
  go_wp2
  all_goals
   go_ret2
   exact ⟨rfl, HX3.out⟩
 | some x =>
  obtain ⟨v3, rfl, hp3, hx3⟩ := h3
  have HX3 := hid (HX2.out.trans hx3)
  have HP3 := hid (hp3.to (S' := New W w3) (Kept.refl _ _) (fun k h => ⟨Nat.le_trans HX2.out.size h.1, h.2⟩))
  clear hp3 hx3
  go_wp2
  all_goals
   go_ret2
   exact ⟨_, rfl, HP3.out, HX3.out⟩
end
section
open Go.RowKit
section
variable {W : World} {u v : Value} {p q : PZ} {k l n m : Nat}
theorem ztu (hp : PV W u p) (fp : Fit k n p) (hk : k ≤ 1000000) (hn : n ≤ 1000000000000) {x : Int} (hx : 1 ≤ x ∧ x ≤ 200) :
  Calls Tryz.prog 171 #[u, .int .i64 x] W fun e w' => ∃ v', e = .returned v' ∧ z05 (New W w') w' v' (ofP (z18 p x)) ∧ Ext W w' := by
 have HX0 := hid (Ext.refl W)
 have HD := hid (zap hp fp hk (x := x) (by unfold z12; omega))
 have hr := z0u fp.can.may x
 have HC := hid (fun (Y : World) (hY : Ext W Y) => zx4 (z05.on hp hY) fp hk hn hx (d := degP p x) (by unfold z12; omega))
 obtain ⟨a, c, rfl⟩ := hp.form
 obtain ⟨np, hnp⟩ : ∃ n, n = (ofP p).length := ⟨_, rfl⟩
 rw [← hnp] at HD HC ⊢
 clear hp fp hnp
 go_enter Tryz.func171, Tryz.ntmps171
 go_wp2_with fail
 with_reducible refine HD.out.mono ?_
 rintro e w1 ⟨rfl, hx1⟩
 have HX1 := hid hx1
 have HC1 := hid (HC.out w1 hx1)
 clear hx1
 go_wp2_with fail
 with_reducible refine HC1.out.mono ?_
 rintro e w2 ⟨v2, rfl, hp2, hx2⟩
 have HX2 := hid (HX1.out.trans hx2)
 have HP2 := hid (hp2.to (S' := New W w2) (Kept.refl _ _) (fun k h => ⟨Nat.le_trans HX1.out.size h.1, h.2⟩))
 clear hp2 hx2
 go_wp2
 all_goals
  go_ret
  exact ⟨_, rfl, HP2.out, HX2.out⟩
def powM (x : Int) (i : Nat) : Mono := if i = 0 then [] else [(x, (i : Int))]
theorem zs8 (x : Int) (i : Nat) : oneZ 1 (powM x i) = powP x i := by
 unfold oneZ powM powP
 rw [if_neg (by decide)]
 split <;> rfl
theorem zs9 {x : Int} {i : Nat} (hx : 1 ≤ x ∧ x ≤ 200) (hi : i ≤ 10000) : mayM (powM x i) = true := by
 unfold powM
 split
 ·rfl
 ·exact znq hx (by omega)
theorem zvm {x : Int} {i : Nat} (hx : 1 ≤ x ∧ x ≤ 200) (hi : i ≤ 10000) :
  Calls Tryz.prog 201 #[.int .i64 x, .int .i64 (i : Nat)] W fun e w' => ∃ v', e = .returned v' ∧ Pows (New W w') w' v' (powM x i) ∧ Ext W w' := by
 unfold powM
 by_cases h0 : i = 0
 ·subst h0
  go_enter Tryz.func201, Tryz.ntmps201
  go_wp2
  all_goals
   go_ret
   exact ⟨_, rfl, Pows.empty _ _ _, Ext.refl _⟩
 ·rw [if_neg h0]
  have q0 : ((i : Int) == 0) = false := by rw [beq_eq_false_iff_ne]; omega
  have HI := hid (show z12 x ∧ z12 (i : Int) from ⟨by unfold z12; omega, by unfold z12; omega⟩)
  clear hx hi
  go_enter Tryz.func201, Tryz.ntmps201
  go_wp2
  all_goals
   go_ret
   refine ⟨_, rfl, ⟨W.heap.size, 0, ⟨_, 1, rfl, Nat.le_refl _, by decide, fun _ => rfl, fun _ => ⟨Nat.le_refl _, by rw [z02]; omega⟩⟩, fun j y hj => ?_⟩, Ext.alloc (Ext.refl _) _⟩
   have hj2 := z04 hj
   match j, hj with
   | 0, hj =>
    obtain rfl : (x, (i : Int)) = y := by simpa using hj
    exact ⟨⟨HI.out.1, HI.out.2⟩, z01 _ _ _ rfl rfl, z01 _ _ _ rfl rfl⟩
   | j + 1, _ => simp only [List.length_cons, List.length_nil] at hj2; omega
theorem zp6 {p : PZ} (cp : canP p) : z0e p (oneZ (-1) []) = some (negP p) := by
 have e : oneZ (-1) [] = [((-1 : Int), ([] : Mono))] := rfl
 rw [e]
 have e2 : mulL p [((-1 : Int), ([] : Mono))] = negP p := by
  rw [zj8]
  unfold negP
  refine List.map_congr_left (fun t ht => ?_)
  rw [z6r (zj4 (cp.1 t ht).2), Int.mul_neg_one]
 have e3 := z7h cp.may (q := [((-1 : Int), ([] : Mono))]) (fun t ht => by rw [List.mem_singleton.1 ht]; rfl) (by rw [e2]; exact (z7k cp).may)
 rw [e3, e2, z2n (z7k cp)]
theorem zxu (hp : PV W u p) (fp : Fit k n p) (hk : k ≤ 1000000) (hn : n ≤ 1000000000000) : Calls Tryz.prog 188 #[u] W (z8v W (negP p)) := by
 have C1 := hid (zeb (-1) W (by decide))
 have C2 := hid (fun (Y : World) (vz : Value) (hY : Ext W Y) (hz : IntV (Old Y) Y vz (ofI (-1))) => zp5 (c := -1) (m := []) (l := 1) (z05.on hp hY) hz (Pows.empty (Old Y) Y none) fp rfl (by decide) (.inr (by decide)) hk (by decide) hn)
 simp only [zp6 fp.can] at C2
 unfold z5p z8v at C2
 obtain ⟨a, c, rfl⟩ := hp.form
 obtain ⟨np, hnp⟩ : ∃ n, n = (ofP p).length := ⟨_, rfl⟩
 rw [← hnp] at C2 ⊢
 unfold z8v
 clear hp fp hnp
 go_enter Tryz.func188, Tryz.ntmps188
 go_wp2_with fail
 with_reducible refine C1.out.mono ?_
 rintro e w1 ⟨v1, rfl, ⟨vz, rfl, hz⟩, hx1⟩
 have HX1 := hid hx1
 have C3 := hid (C2.out w1 (.agg #[.bool (ofI (-1)).neg, vz]) hx1 ⟨vz, rfl, hz.to (Kept.refl _ _) New.lt⟩)
 obtain ⟨az, cz, rfl⟩ := hz.form
 obtain ⟨nz, hnz⟩ : ∃ n, n = (ofI (-1)).mag.length := ⟨_, rfl⟩
 obtain ⟨ng, hng⟩ : ∃ n, n = (ofI (-1)).neg := ⟨_, rfl⟩
 rw [← hnz, ← hng] at C3 ⊢
 clear hz hx1 hnz hng
 go_wp2_with fail
 with_reducible refine C3.out.mono ?_
 rintro e w2 ⟨v2, rfl, hp2, hx2⟩
 have HX2 := hid (HX1.out.trans hx2)
 have HP2 := hid (hp2.to (S' := New W w2) (Kept.refl _ _) (fun k h => ⟨Nat.le_trans HX1.out.size h.1, h.2⟩))
 clear hp2 hx2
 go_wp2
 all_goals
  go_ret2
  exact ⟨_, rfl, HP2.out, HX2.out⟩
end
end
section
open Go.RowKit
structure DivAt (W : World) (bd : Nat) (vm : Value) (v d : Int) (vg vh vq vr : Value) (n : Int) (keep : Bool) : Prop where
 c0 : W.cell? ⟨bd, 0, none⟩ = some vm
 c1 : W.cell? ⟨bd, 1, none⟩ = some (.int .i64 v)
 c2 : W.cell? ⟨bd, 2, none⟩ = some (.int .i64 d)
 c3 : W.cell? ⟨bd, 3, none⟩ = some vg
 c4 : W.cell? ⟨bd, 4, none⟩ = some vh
 c5 : W.cell? ⟨bd, 5, none⟩ = some vq
 c6 : W.cell? ⟨bd, 6, none⟩ = some vr
 c7 : W.cell? ⟨bd, 7, none⟩ = some (.int .i64 n)
 c8 : W.cell? ⟨bd, 8, none⟩ = some (.bool keep)
 fz : ∀ i, W.frozen? ⟨bd, i, none⟩ = false
section
variable {W W' : World} {bd : Nat} {vm vg vh vq vr : Value} {v d n : Int} {keep : Bool}
theorem DivAt.same (h : DivAt W bd vm v d vg vh vq vr n keep) (e : W'.heap[bd]? = W.heap[bd]?) : DivAt W' bd vm v d vg vh vq vr n keep := by
 have hc : ∀ i, W'.cell? ⟨bd, i, none⟩ = W.cell? ⟨bd, i, none⟩ := fun i => World.cell?_of_block e
 exact ⟨(hc _).trans h.c0, (hc _).trans h.c1, (hc _).trans h.c2, (hc _).trans h.c3, (hc _).trans h.c4, (hc _).trans h.c5, (hc _).trans h.c6, (hc _).trans h.c7, (hc _).trans h.c8, fun i => (World.frozen?_of_block (w := W) (a := ⟨bd, i, none⟩) e).trans (h.fz i)⟩
theorem DivAt.lt (h : DivAt W bd vm v d vg vh vq vr n keep) : bd < W.heap.size := z09 h.c0
theorem DivAt.ext (h : DivAt W bd vm v d vg vh vq vr n keep) (g : Ext W W') : DivAt W' bd vm v d vg vh vq vr n keep := h.same (g.block bd h.lt)
end
theorem z2p {W W' : World} {a b c : Addr} {x y z : Value} (g : Ext W W') (ha : a.block < W.heap.size) (hb : b.block < W.heap.size) (hc : c.block < W.heap.size) (h : W.cell? a = some x ∧ W.cell? b = some y ∧ W.cell? c = some z) : W'.cell? a = some x ∧ W'.cell? b = some y ∧ W'.cell? c = some z :=
 ⟨(Below.cell g ha).trans h.1, (Below.cell g hb).trans h.2.1, (Below.cell g hc).trans h.2.2⟩
theorem IntV.on {w W : World} {v : Value} {z : RInt} (h : IntV (Old w) w v z) (hx : Ext w W) : IntV (Old W) W v z := h.to (Kept.ext hx (fun _ h => h)) (z5l hx)
theorem zsa {W : World} {bd : Nat} {vm vg vh vq vr : Value} {v d n : Int} {keep : Bool} {r : PZ} {k m : Nat} (D : DivAt W bd vm v d vg vh vq vr n keep) (hr : PV W vr r) (fr : Fit k m r) (hk : k ≤ 1000000) (hm : m ≤ 1000000000000) (hv : 1 ≤ v ∧ v ≤ 200) (hd : 0 ≤ d) (hdr : d ≤ degP r v) :
  Calls Tryz.prog 187 #[.pointer (some ⟨bd, 0, none⟩)] W (z5p W (z4w r v d)) := by
 have hrg := z0u fr.can.may v
 obtain ⟨i, hi⟩ : ∃ i : Nat, i = (degP r v - d).toNat := ⟨_, rfl⟩
 have hi2 : (i : Int) = degP r v - d := by omega
 have hi3 : i ≤ 10000 := by omega
 have fh := fr.coef v (degP r v)
 have CH := fun (Y : World) (hY : Ext W Y) => ztu (W := Y) (z05.on hr hY) fr hk hm hv
 have CO := fun (Y : World) => zeb 1 Y (by decide)
 have CD := fun (Y : World) (hY : Ext W Y) => zap (W := Y) (z05.on hr hY) fr hk (x := v) (by unfold z12; omega)
 have CP := fun (Y : World) => zvm (W := Y) hv hi3
 have CS := fun (Y : World) (u z w : Value) (hu : PV Y u (z18 r v)) (hz : IntV (Old Y) Y z (ofI 1)) (hw : Pows (Old Y) Y w (powM v i)) => zp5 (c := 1) (m := powM v i) (l := 1) hu hz hw fh (zs9 hv hi3) (by decide) (.inr (by decide)) hk (by decide) hm
 simp only [zs8] at CS
 have et : z4w r v d = z0e (z18 r v) (powP v i) := by unfold z4w; rw [← hi]
 rw [← et] at CS
 rw [hi2] at CP
 obtain ⟨dr, hdr2⟩ : ∃ x, x = degP r v := ⟨_, rfl⟩
 rw [← hdr2] at CP CD hrg hdr
 generalize powM v i = pm at CP CS
 generalize z4w r v d = T at CS et ⊢
 generalize z18 r v = hp at CH CS
 obtain ⟨ar, cr, rfl⟩ := hr.form
 obtain ⟨nr, hnr⟩ : ∃ n, n = (ofP r).length := ⟨_, rfl⟩
 rw [← hnr] at CH CD D
 obtain ⟨nh, hnh⟩ : ∃ n, n = (ofP hp).length := ⟨_, rfl⟩
 obtain ⟨np, hnp⟩ : ∃ n, n = pm.length := ⟨_, rfl⟩
 obtain ⟨nz, hnz⟩ : ∃ n, n = (ofI 1).mag.length := ⟨_, rfl⟩
 obtain ⟨ng, hng⟩ : ∃ n, n = (ofI 1).neg := ⟨_, rfl⟩
 have HNH := hid hnh
 have HNP := hid hnp
 have HNZ := hid hnz
 have HNG := hid hng
 have hb := D.lt
 have HWR : Hid (IntKind.i64.wrap (dr - d) = dr - d) := hid (IntWalk.i64_in _ (by omega))
 have HCC : Hid (_ ∧ _ ∧ _) := hid (And.intro D.c1 (And.intro D.c2 D.c6))
 have HB := hid hb
 have x0 : Ext W W.drew := (Ext.refl W).drew
 have HXC := hid x0
 have SC : _ ∧ _ ∧ _ := z2p x0 hb hb hb HCC.out
 have HCH := hid CH
 have HCO := hid CO
 have HCD := hid CD
 have HCP := hid CP
 have HCS := hid CS
 clear CH CO CD CP CS D hr fr fh et hi hi2 hi3 hdr2 hnr hnh hnp hnz hng hb x0
 cases T with
 | none =>
  go_enter Tryz.func187, Tryz.ntmps187
  go_wp2
  go_region_held3 (fun Y => Y.cell? ⟨bd, 1, none⟩ = some (.int .i64 v) ∧ Y.cell? ⟨bd, 2, none⟩ = some (.int .i64 d) ∧ Y.cell? ⟨bd, 6, none⟩ = some (.slice ar nr cr)) (with_reducible exact SC)
   (first
    | (go_at_call 171; (with_reducible refine (HCH.out _ HXC.out).mono ?_); rintro e wh ⟨v1, rfl, hp1, hx1⟩; have HXC := hid (HXC.out.trans hx1); have SC : _ ∧ _ ∧ _ := z2p HXC.out HB.out HB.out HB.out HCC.out
       try have HPP := hid (Pows.on HPP.out hx1)
       try have HPI := hid (IntV.on HPI.out hx1)
       have HPH := hid (hp1.to (S' := Old wh) (Kept.refl _ _) New.lt); obtain ⟨ah, ch, rfl⟩ := hp1.form; rw [← HNH.out] at HPH; rw [← HNH.out]; clear hp1 hx1)
    | (go_at_call 89; (with_reducible refine (HCO.out _).mono ?_); rintro e wo ⟨v1, rfl, ⟨vz, rfl, hz1⟩, hx1⟩; have HXC := hid (HXC.out.trans hx1); have SC : _ ∧ _ ∧ _ := z2p HXC.out HB.out HB.out HB.out HCC.out
       try have HPP := hid (Pows.on HPP.out hx1)
       try have HPH := hid (z05.on HPH.out hx1)
       obtain ⟨az, cz, rfl⟩ := hz1.form
       have HPI : Hid (IntV (Old wo) wo (.agg #[.bool ng, .slice az nz cz]) (ofI 1)) := hid ⟨_, by rw [HNG.out], by rw [HNZ.out]; exact hz1.to (Kept.refl _ _) New.lt⟩; rw [← HNZ.out, ← HNG.out]; clear hz1 hx1)
    | (go_at_call 70; (with_reducible refine (HCD.out _ HXC.out).mono ?_); rintro e wd ⟨rfl, hx1⟩; have HXC := hid (HXC.out.trans hx1); have SC : _ ∧ _ ∧ _ := z2p HXC.out HB.out HB.out HB.out HCC.out
       try have HPP := hid (Pows.on HPP.out hx1)
       try have HPI := hid (IntV.on HPI.out hx1)
       try have HPH := hid (z05.on HPH.out hx1)
       clear hx1)
    | (go_at_call 201; rw [HWR.out]; (with_reducible refine (HCP.out _).mono ?_); rintro e wp ⟨v1, rfl, hp1, hx1⟩; have HXC := hid (HXC.out.trans hx1); have SC : _ ∧ _ ∧ _ := z2p HXC.out HB.out HB.out HB.out HCC.out
       try have HPI := hid (IntV.on HPI.out hx1)
       try have HPH := hid (z05.on HPH.out hx1)
       have HPP := hid (hp1.to (S' := Old wp) (Kept.refl _ _) New.lt); obtain ⟨ap, cp, rfl⟩ := hp1.form; rw [← HNP.out] at HPP; rw [← HNP.out]; clear hp1 hx1)
    | (go_at_call 200; (with_reducible refine (HCS.out _ _ _ _ HPH.out HPI.out HPP.out).mono ?_); rintro e ws ⟨rfl, hx1⟩; have HXC := hid (HXC.out.trans hx1); have SC : _ ∧ _ ∧ _ := z2p HXC.out HB.out HB.out HB.out HCC.out; clear hx1))
  all_goals
   go_wp2
   all_goals
    go_ret2
    exact ⟨rfl, HXC.out⟩
 | some t =>
  go_enter Tryz.func187, Tryz.ntmps187
  go_wp2
  go_region_held3 (fun Y => Y.cell? ⟨bd, 1, none⟩ = some (.int .i64 v) ∧ Y.cell? ⟨bd, 2, none⟩ = some (.int .i64 d) ∧ Y.cell? ⟨bd, 6, none⟩ = some (.slice ar nr cr)) (with_reducible exact SC)
   (first
    | (go_at_call 171; (with_reducible refine (HCH.out _ HXC.out).mono ?_); rintro e wh ⟨v1, rfl, hp1, hx1⟩; have HXC := hid (HXC.out.trans hx1); have SC : _ ∧ _ ∧ _ := z2p HXC.out HB.out HB.out HB.out HCC.out
       try have HPP := hid (Pows.on HPP.out hx1)
       try have HPI := hid (IntV.on HPI.out hx1)
       have HPH := hid (hp1.to (S' := Old wh) (Kept.refl _ _) New.lt); obtain ⟨ah, ch, rfl⟩ := hp1.form; rw [← HNH.out] at HPH; rw [← HNH.out]; clear hp1 hx1)
    | (go_at_call 89; (with_reducible refine (HCO.out _).mono ?_); rintro e wo ⟨v1, rfl, ⟨vz, rfl, hz1⟩, hx1⟩; have HXC := hid (HXC.out.trans hx1); have SC : _ ∧ _ ∧ _ := z2p HXC.out HB.out HB.out HB.out HCC.out
       try have HPP := hid (Pows.on HPP.out hx1)
       try have HPH := hid (z05.on HPH.out hx1)
       obtain ⟨az, cz, rfl⟩ := hz1.form
       have HPI : Hid (IntV (Old wo) wo (.agg #[.bool ng, .slice az nz cz]) (ofI 1)) := hid ⟨_, by rw [HNG.out], by rw [HNZ.out]; exact hz1.to (Kept.refl _ _) New.lt⟩; rw [← HNZ.out, ← HNG.out]; clear hz1 hx1)
    | (go_at_call 70; (with_reducible refine (HCD.out _ HXC.out).mono ?_); rintro e wd ⟨rfl, hx1⟩; have HXC := hid (HXC.out.trans hx1); have SC : _ ∧ _ ∧ _ := z2p HXC.out HB.out HB.out HB.out HCC.out
       try have HPP := hid (Pows.on HPP.out hx1)
       try have HPI := hid (IntV.on HPI.out hx1)
       try have HPH := hid (z05.on HPH.out hx1)
       clear hx1)
    | (go_at_call 201; rw [HWR.out]; (with_reducible refine (HCP.out _).mono ?_); rintro e wp ⟨v1, rfl, hp1, hx1⟩; have HXC := hid (HXC.out.trans hx1); have SC : _ ∧ _ ∧ _ := z2p HXC.out HB.out HB.out HB.out HCC.out
       try have HPI := hid (IntV.on HPI.out hx1)
       try have HPH := hid (z05.on HPH.out hx1)
       have HPP := hid (hp1.to (S' := Old wp) (Kept.refl _ _) New.lt); obtain ⟨ap, cp, rfl⟩ := hp1.form; rw [← HNP.out] at HPP; rw [← HNP.out]; clear hp1 hx1)
    | (go_at_call 200; (with_reducible refine (HCS.out _ _ _ _ HPH.out HPI.out HPP.out).mono ?_); rintro e ws ⟨v1, rfl, hp1, hx1⟩; have HPT := hid (hp1.to (S' := New W ws) (Kept.refl _ _) (fun k h => ⟨Nat.le_trans HXC.out.size h.1, h.2⟩)); have HXC := hid (HXC.out.trans hx1); have SC : _ ∧ _ ∧ _ := z2p HXC.out HB.out HB.out HB.out HCC.out; clear hx1 hp1))
  all_goals
   go_wp2
   all_goals
    go_ret2
    exact ⟨_, rfl, HPT.out, HXC.out⟩
end
section
open Go.RowKit
section
variable {W : World} {bd : Nat} {vm vg vh vq vr vp vo : Value} {v d n : Int} {keep : Bool} {h p q : PZ} {A B T M L l : Nat}
def mixD (h p q : PZ) : Option PZ := match z0e h p with
 | none => none
 | some u => some (z0m (u ++ q))
theorem zgj (D : DivAt W bd vm v d vg vh vq vr n keep) (hh : PV W vh h) (hp : PV W vp p) (hq : PV W vo q) (fh : Fit A T h) (fp : Fit B M p) (fq : Fit l L q) (hA : A < 24) (hB : B ≤ 900000) (hl : l ≤ 900000) (hTM : T * M + L ≤ 1000000000000) :
  Calls Tryz.prog 189 #[.pointer (some ⟨bd, 0, none⟩), vp, vo] W (z5p W (mixD h p q)) := by
 have HX0 := hid (Ext.refl W)
 have CT := zeg hh hp fh fp (.inl hA) (by omega) (by omega) (by omega)
 have CA := fun (Y : World) (w : Value) (u : PZ) (hu : z0e h p = some u) (hY : Ext W Y) (hw : PV Y w u) => zov hw (z05.on hq hY) (fh.times fp hu (by omega)) fq (by omega) (by omega) hTM
 obtain ⟨ah, ch, rfl⟩ := hh.form
 obtain ⟨ap, cp, rfl⟩ := hp.form
 obtain ⟨aq, cq, rfl⟩ := hq.form
 obtain ⟨nh, hnh⟩ : ∃ n, n = (ofP h).length := ⟨_, rfl⟩
 obtain ⟨np, hnp⟩ : ∃ n, n = (ofP p).length := ⟨_, rfl⟩
 obtain ⟨nq, hnq⟩ : ∃ n, n = (ofP q).length := ⟨_, rfl⟩
 rw [← hnh] at D CT
 rw [← hnp] at CT ⊢
 rw [← hnq] at CA ⊢
 have d4 := D.c4
 have em : mixD h p q = match z0e h p with
  | none => none
  | some u => some (z0m (u ++ q)) := rfl
 rw [em]
 cases hT : z0e h p with
 | none =>
  rw [hT] at CT
  have HCT := hid CT
  clear D hh hp hq fh fp fq CT CA hnh hnp hnq hT em
  go_enter Tryz.func189, Tryz.ntmps189
  go_wp2_with fail
  with_reducible refine HCT.out.mono ?_
  rintro e w1 ⟨rfl, hx1⟩
  have HX1 := hid hx1
  clear hx1
  go_wp2
  all_goals
   go_ret2
   exact ⟨rfl, HX1.out⟩
 | some u =>
  rw [hT] at CT
  have HCT := hid CT
  have HCA := hid (fun Y w hY hw => CA Y w u hT hY hw)
  clear D hh hp hq fh fp fq CT CA hnh hnp hnq hT em
  go_enter Tryz.func189, Tryz.ntmps189
  go_wp2_with fail
  with_reducible refine HCT.out.mono ?_
  rintro e w1 ⟨v1, rfl, hp1, hx1⟩
  have HX1 := hid hx1
  have HA1 := hid (HCA.out w1 v1 hx1 (hp1.to (Kept.refl _ _) New.lt))
  obtain ⟨a1, c1, rfl⟩ := hp1.form
  clear hx1 hp1
  go_wp2_with fail
  with_reducible refine HA1.out.mono ?_
  rintro e w2 ⟨v2, rfl, hp2, hx2⟩
  have HX2 := hid (HX1.out.trans hx2)
  have HP2 := hid (hp2.to (S' := New W w2) (Kept.refl _ _) (fun k h => ⟨Nat.le_trans HX1.out.size h.1, h.2⟩))
  clear hp2 hx2
  go_wp2
  all_goals
   go_ret2
   exact ⟨_, rfl, HP2.out, HX2.out⟩
end
theorem zp7 (keep : Bool) (g h : PZ) (v d : Int) (q r : PZ) : z2o keep g h v d q r = match z4w r v d with
  | none => none
  | some t => match z0e t g with
   | none => none
   | some l => match mixD h r (negP l) with
    | none => none
    | some x => if keep then (match mixD h q t with
      | none => none
      | some y => some (y, x))
     else some ([], x) := by
 unfold z2o mixD
 cases z4w r v d with
 | none => rfl
 | some t =>
  simp only
  cases z0e t g with
  | none => rfl
  | some l =>
   simp only
   cases z0e h r with
   | none => rfl
   | some m =>
    simp only
    cases keep with
    | false => rfl
    | true =>
     simp only [if_true]
     cases z0e h q with
     | none => rfl
     | some u => rfl
def zsb (W : World) : Option (PZ × PZ) → Ending → World → Prop
 | none => fun e w' => ∃ a b, e = .returned (.tuple #[a, b, .int .i64 8]) ∧ Ext W w'
 | some x => fun e w' => ∃ a b, e = .returned (.tuple #[a, b, .int .i64 0]) ∧ z05 (New W w') w' a (ofP x.1) ∧ z05 (New W w') w' b (ofP x.2) ∧ Ext W w'
theorem zsc {W : World} {bd : Nat} {vm vg vh vq vr : Value} {v d n : Int} {keep : Bool} {g h q r : PZ} {A B T M : Nat} (D : DivAt W bd vm v d vg vh vq vr n keep) (hg : PV W vg g) (hh : PV W vh h) (hq : PV W vq q) (hr : PV W vr r) (fg : Fit A T g) (fh : Fit A T h) (fq : Fit B M q) (fr : Fit B M r)
  (hA : A < 24) (hB : B ≤ 80000) (hT : 1 ≤ T) (hTM : 2 * T * M ≤ 1000000000000) (hv : 1 ≤ v ∧ v ≤ 200) (hd : 0 ≤ d) (hdr : d ≤ degP r v) :
  Calls Tryz.prog 173 #[.pointer (some ⟨bd, 0, none⟩)] W (zsb W (z2o keep g h v d q r)) := by
 have HX0 := hid (Ext.refl W)
 have h1 : M ≤ T * M := Nat.le_mul_of_pos_left M hT
 have h2 : 2 * T * M = T * M + T * M := by rw [Nat.mul_assoc]; omega
 have h3 : M * T = T * M := Nat.mul_comm _ _
 have CT := zsa D hr fr (by omega) (by omega) hv hd hdr
 have CG := fun (t : PZ) (ht : z4w r v d = some t) (Y : World) (w : Value) (hY : Ext W Y) (hw : PV Y w t) => zeg hw (z05.on hg hY) (z91 fr (by omega) hv hd ht) fg (.inr hA) (by omega) (by omega) (by omega)
 have CN := fun (t l : PZ) (ht : z4w r v d = some t) (hl : z0e t g = some l) (Y : World) (w : Value) (hw : PV Y w l) => zxu hw ((z91 fr (by omega) hv hd ht).times fg hl (by omega)) (by omega) (by omega)
 have CR := fun (t l : PZ) (ht : z4w r v d = some t) (hl : z0e t g = some l) (Y : World) (w : Value) (hY : Ext W Y) (hw : PV Y w (negP l)) => zgj (D.ext hY) (z05.on hh hY) (z05.on hr hY) hw fh fr ((z91 fr (by omega) hv hd ht).times fg hl (by omega)).neg hA (by omega) (by omega) (by omega)
 have CQ := fun (t : PZ) (ht : z4w r v d = some t) (Y : World) (w : Value) (hY : Ext W Y) (hw : PV Y w t) => zgj (D.ext hY) (z05.on hh hY) (z05.on hq hY) hw fh fq (z91 fr (by omega) hv hd ht) hA (by omega) (by omega) (by omega)
 obtain ⟨ag, cg, rfl⟩ := hg.form
 obtain ⟨aq, cq, rfl⟩ := hq.form
 obtain ⟨ar, cr, rfl⟩ := hr.form
 obtain ⟨ng, hng⟩ : ∃ n, n = (ofP g).length := ⟨_, rfl⟩
 obtain ⟨nq, hnq⟩ : ∃ n, n = (ofP q).length := ⟨_, rfl⟩
 obtain ⟨nr, hnr⟩ : ∃ n, n = (ofP r).length := ⟨_, rfl⟩
 rw [← hng] at CG D
 rw [← hnq] at CQ D
 rw [← hnr] at CR D
 have HD := hid D
 rw [zp7]
 cases ht : z4w r v d with
 | none =>
  rw [ht] at CT
  have HCT := hid CT
  simp only
  clear D hg hh hq hr fg fh fq fr CT CG CN CR CQ hng hnq hnr h1 h2 h3 hdr hd hv ht hTM
  go_enter Tryz.func173, Tryz.ntmps173
  go_wp2_with fail
  with_reducible refine HCT.out.mono ?_
  rintro e w1 ⟨rfl, hx1⟩
  have HX1 := hid hx1
  clear hx1
  go_wp2
  all_goals
   refine bodyPost_ret (v := .tuple #[.slice none 0 0, .slice none 0 0, .int .i64 8]) (by simp [results, Tryz.results173, go_sem]) rfl ?_
   exact ⟨_, _, rfl, HX1.out⟩
 | some t =>
  rw [ht] at CT
  have HCT := hid CT
  have HCG := hid (CG t ht)
  have HCN := hid (fun l => CN t l ht)
  have HCR := hid (fun l => CR t l ht)
  have HCQ := hid (CQ t ht)
  simp only
  cases hl : z0e t g with
  | none =>
   rw [hl] at HCG
   simp only
   clear D hg hh hq hr fg fh fq fr CT CG CN CR CQ hng hnq hnr h1 h2 h3 hdr hd hv ht hTM hl
   go_enter Tryz.func173, Tryz.ntmps173
   go_wp2_with fail
   with_reducible refine HCT.out.mono ?_
   rintro e w1 ⟨v1, rfl, hp1, hx1⟩
   have HX1 := hid hx1
   have d3 := (HD.out.ext hx1).c3
   have HT1 := hid (hp1.to (S' := Old w1) (Kept.refl _ _) New.lt)
   have HG1 := hid (HCG.out w1 v1 hx1 HT1.out)
   obtain ⟨a1, c1, rfl⟩ := hp1.form
   obtain ⟨n1, hn1⟩ : ∃ n, n = (ofP t).length := ⟨_, rfl⟩
   rw [← hn1] at HG1 HT1 ⊢
   clear hx1 hp1 hn1
   go_wp2_with fail
   with_reducible refine HG1.out.mono ?_
   rintro e w2 ⟨rfl, hx2⟩
   have HX2 := hid (HX1.out.trans hx2)
   clear hx2
   go_wp2
   all_goals
    refine bodyPost_ret (v := .tuple #[.slice none 0 0, .slice none 0 0, .int .i64 8]) (by simp [results, Tryz.results173, go_sem]) rfl ?_
    exact ⟨_, _, rfl, HX2.out⟩
  | some l =>
   rw [hl] at HCG
   have HN := hid (HCN.out l hl)
   have HR := hid (HCR.out l hl)
   clear HCN HCR
   simp only
   clear D hg hh hq hr fg fh fq fr CT CG CN CR CQ hng hnq hnr h1 h2 h3 hdr hd hv ht hTM hl
   generalize mixD h r (negP l) = X1 at HR ⊢
   generalize mixD h q t = X2 at HCQ ⊢
   cases X1 with
   | none =>
    simp only
    go_enter Tryz.func173, Tryz.ntmps173
    go_wp2_with fail
    with_reducible refine HCT.out.mono ?_
    rintro e w1 ⟨v1, rfl, hp1, hx1⟩
    have HX1 := hid hx1
    have d3 := (HD.out.ext hx1).c3
    have HT1 := hid (hp1.to (S' := Old w1) (Kept.refl _ _) New.lt)
    have HG1 := hid (HCG.out w1 v1 hx1 HT1.out)
    obtain ⟨a1, c1, rfl⟩ := hp1.form
    obtain ⟨n1, hn1⟩ : ∃ n, n = (ofP t).length := ⟨_, rfl⟩
    rw [← hn1] at HG1 HT1 ⊢
    clear hx1 hp1 hn1
    go_wp2_with fail
    with_reducible refine HG1.out.mono ?_
    rintro e w2 ⟨v2, rfl, hp2, hx2⟩
    have HX2 := hid (HX1.out.trans hx2)
    have HT2 := hid (z05.on HT1.out hx2)
    have HN2 := hid (HN.out w2 v2 (hp2.to (Kept.refl _ _) New.lt))
    obtain ⟨a2, c2, rfl⟩ := hp2.form
    obtain ⟨n2, hn2⟩ : ∃ n, n = (ofP l).length := ⟨_, rfl⟩
    rw [← hn2] at HN2 ⊢
    clear hx2 hp2 hn2 d3
    go_wp2_with fail
    with_reducible refine HN2.out.mono ?_
    rintro e w3 ⟨v3, rfl, hp3, hx3⟩
    have HX3 := hid (HX2.out.trans hx3)
    have HT3 := hid (z05.on HT2.out hx3)
    have d6 := (HD.out.ext HX3.out).c6
    have HR3 := hid (HR.out w3 v3 HX3.out (hp3.to (Kept.refl _ _) New.lt))
    obtain ⟨a3, c3, rfl⟩ := hp3.form
    obtain ⟨n3, hn3⟩ : ∃ n, n = (ofP (negP l)).length := ⟨_, rfl⟩
    rw [← hn3] at HR3 ⊢
    clear hx3 hp3 hn3
    go_wp2_with fail
    with_reducible refine HR3.out.mono ?_
    rintro e w4 ⟨rfl, hx4⟩
    have HX4 := hid (HX3.out.trans hx4)
    clear hx4 d6
    go_wp2
    all_goals
     refine bodyPost_ret (v := .tuple #[.slice none 0 0, .slice none 0 0, .int .i64 8]) (by simp [results, Tryz.results173, go_sem]) rfl ?_
     exact ⟨_, _, rfl, HX4.out⟩
   | some x =>
    simp only
    cases keep with
    | false =>
     simp only [Bool.false_eq_true, if_false]
     go_enter Tryz.func173, Tryz.ntmps173
     go_wp2_with fail
     with_reducible refine HCT.out.mono ?_
     rintro e w1 ⟨v1, rfl, hp1, hx1⟩
     have HX1 := hid hx1
     have d3 := (HD.out.ext hx1).c3
     have HT1 := hid (hp1.to (S' := Old w1) (Kept.refl _ _) New.lt)
     have HG1 := hid (HCG.out w1 v1 hx1 HT1.out)
     obtain ⟨a1, c1, rfl⟩ := hp1.form
     obtain ⟨n1, hn1⟩ : ∃ n, n = (ofP t).length := ⟨_, rfl⟩
     rw [← hn1] at HG1 HT1 ⊢
     clear hx1 hp1 hn1
     go_wp2_with fail
     with_reducible refine HG1.out.mono ?_
     rintro e w2 ⟨v2, rfl, hp2, hx2⟩
     have HX2 := hid (HX1.out.trans hx2)
     have HT2 := hid (z05.on HT1.out hx2)
     have HN2 := hid (HN.out w2 v2 (hp2.to (Kept.refl _ _) New.lt))
     obtain ⟨a2, c2, rfl⟩ := hp2.form
     obtain ⟨n2, hn2⟩ : ∃ n, n = (ofP l).length := ⟨_, rfl⟩
     rw [← hn2] at HN2 ⊢
     clear hx2 hp2 hn2 d3
     go_wp2_with fail
     with_reducible refine HN2.out.mono ?_
     rintro e w3 ⟨v3, rfl, hp3, hx3⟩
     have HX3 := hid (HX2.out.trans hx3)
     have HT3 := hid (z05.on HT2.out hx3)
     have d6 := (HD.out.ext HX3.out).c6
     have HR3 := hid (HR.out w3 v3 HX3.out (hp3.to (Kept.refl _ _) New.lt))
     obtain ⟨a3, c3, rfl⟩ := hp3.form
     obtain ⟨n3, hn3⟩ : ∃ n, n = (ofP (negP l)).length := ⟨_, rfl⟩
     rw [← hn3] at HR3 ⊢
     clear hx3 hp3 hn3
     go_wp2_with fail
     with_reducible refine HR3.out.mono ?_
     rintro e w4 ⟨v4, rfl, hp4, hx4⟩
     have HX4 := hid (HX3.out.trans hx4)
     have HP4 := hid (hp4.to (S' := New W w4) (Kept.refl _ _) (fun k h => ⟨Nat.le_trans HX3.out.size h.1, h.2⟩))
     have HT4 := hid (z05.on HT3.out hx4)
     have d8 := (HD.out.ext HX4.out).c8
     have d5 := (HD.out.ext HX4.out).c5
     obtain ⟨a4, c4, rfl⟩ := hp4.form
     obtain ⟨n4, hn4⟩ : ∃ n, n = (ofP x).length := ⟨_, rfl⟩
     rw [← hn4] at HP4 ⊢
     clear hx4 hp4 d6 hn4
     go_wp2
     all_goals
      refine bodyPost_ret (v := .tuple #[.slice none 0 0, .slice a4 n4 c4, .int .i64 0]) (by simp [results, Tryz.results173, go_sem]) rfl ?_
      exact ⟨_, _, rfl, z05.nilv _ _ _ _ (by decide), HP4.out, HX4.out⟩
    | true =>
     simp only [if_true]
     cases X2 with
     | none =>
      simp only
      go_enter Tryz.func173, Tryz.ntmps173
      go_wp2_with fail
      with_reducible refine HCT.out.mono ?_
      rintro e w1 ⟨v1, rfl, hp1, hx1⟩
      have HX1 := hid hx1
      have d3 := (HD.out.ext hx1).c3
      have HT1 := hid (hp1.to (S' := Old w1) (Kept.refl _ _) New.lt)
      have HG1 := hid (HCG.out w1 v1 hx1 HT1.out)
      obtain ⟨a1, c1, rfl⟩ := hp1.form
      obtain ⟨n1, hn1⟩ : ∃ n, n = (ofP t).length := ⟨_, rfl⟩
      rw [← hn1] at HG1 HT1 ⊢
      clear hx1 hp1 hn1
      go_wp2_with fail
      with_reducible refine HG1.out.mono ?_
      rintro e w2 ⟨v2, rfl, hp2, hx2⟩
      have HX2 := hid (HX1.out.trans hx2)
      have HT2 := hid (z05.on HT1.out hx2)
      have HN2 := hid (HN.out w2 v2 (hp2.to (Kept.refl _ _) New.lt))
      obtain ⟨a2, c2, rfl⟩ := hp2.form
      obtain ⟨n2, hn2⟩ : ∃ n, n = (ofP l).length := ⟨_, rfl⟩
      rw [← hn2] at HN2 ⊢
      clear hx2 hp2 hn2 d3
      go_wp2_with fail
      with_reducible refine HN2.out.mono ?_
      rintro e w3 ⟨v3, rfl, hp3, hx3⟩
      have HX3 := hid (HX2.out.trans hx3)
      have HT3 := hid (z05.on HT2.out hx3)
      have d6 := (HD.out.ext HX3.out).c6
      have HR3 := hid (HR.out w3 v3 HX3.out (hp3.to (Kept.refl _ _) New.lt))
      obtain ⟨a3, c3, rfl⟩ := hp3.form
      obtain ⟨n3, hn3⟩ : ∃ n, n = (ofP (negP l)).length := ⟨_, rfl⟩
      rw [← hn3] at HR3 ⊢
      clear hx3 hp3 hn3
      go_wp2_with fail
      with_reducible refine HR3.out.mono ?_
      rintro e w4 ⟨v4, rfl, hp4, hx4⟩
      have HX4 := hid (HX3.out.trans hx4)
      have HP4 := hid (hp4.to (S' := New W w4) (Kept.refl _ _) (fun k h => ⟨Nat.le_trans HX3.out.size h.1, h.2⟩))
      have HT4 := hid (z05.on HT3.out hx4)
      have d8 := (HD.out.ext HX4.out).c8
      have d5 := (HD.out.ext HX4.out).c5
      obtain ⟨a4, c4, rfl⟩ := hp4.form
      obtain ⟨n4, hn4⟩ : ∃ n, n = (ofP x).length := ⟨_, rfl⟩
      rw [← hn4] at HP4 ⊢
      clear hx4 hp4 d6 hn4
      have HQ4 := hid (HCQ.out w4 (.slice a1 n1 c1) HX4.out HT4.out)
      go_wp2_with fail
      with_reducible refine HQ4.out.mono ?_
      rintro e w5 ⟨rfl, hx5⟩
      have HX5 := hid (HX4.out.trans hx5)
      clear hx5 d8 d5
      go_wp2
      all_goals
       refine bodyPost_ret (v := .tuple #[.slice none 0 0, .slice a4 n4 c4, .int .i64 8]) (by simp [results, Tryz.results173, go_sem]) rfl ?_
       exact ⟨_, _, rfl, HX5.out⟩
     | some y =>
      simp only
      go_enter Tryz.func173, Tryz.ntmps173
      go_wp2_with fail
      with_reducible refine HCT.out.mono ?_
      rintro e w1 ⟨v1, rfl, hp1, hx1⟩
      have HX1 := hid hx1
      have d3 := (HD.out.ext hx1).c3
      have HT1 := hid (hp1.to (S' := Old w1) (Kept.refl _ _) New.lt)
      have HG1 := hid (HCG.out w1 v1 hx1 HT1.out)
      obtain ⟨a1, c1, rfl⟩ := hp1.form
      obtain ⟨n1, hn1⟩ : ∃ n, n = (ofP t).length := ⟨_, rfl⟩
      rw [← hn1] at HG1 HT1 ⊢
      clear hx1 hp1 hn1
      go_wp2_with fail
      with_reducible refine HG1.out.mono ?_
      rintro e w2 ⟨v2, rfl, hp2, hx2⟩
      have HX2 := hid (HX1.out.trans hx2)
      have HT2 := hid (z05.on HT1.out hx2)
      have HN2 := hid (HN.out w2 v2 (hp2.to (Kept.refl _ _) New.lt))
      obtain ⟨a2, c2, rfl⟩ := hp2.form
      obtain ⟨n2, hn2⟩ : ∃ n, n = (ofP l).length := ⟨_, rfl⟩
      rw [← hn2] at HN2 ⊢
      clear hx2 hp2 hn2 d3
      go_wp2_with fail
      with_reducible refine HN2.out.mono ?_
      rintro e w3 ⟨v3, rfl, hp3, hx3⟩
      have HX3 := hid (HX2.out.trans hx3)
      have HT3 := hid (z05.on HT2.out hx3)
      have d6 := (HD.out.ext HX3.out).c6
      have HR3 := hid (HR.out w3 v3 HX3.out (hp3.to (Kept.refl _ _) New.lt))
      obtain ⟨a3, c3, rfl⟩ := hp3.form
      obtain ⟨n3, hn3⟩ : ∃ n, n = (ofP (negP l)).length := ⟨_, rfl⟩
      rw [← hn3] at HR3 ⊢
      clear hx3 hp3 hn3
      go_wp2_with fail
      with_reducible refine HR3.out.mono ?_
      rintro e w4 ⟨v4, rfl, hp4, hx4⟩
      have HX4 := hid (HX3.out.trans hx4)
      have HP4 := hid (hp4.to (S' := New W w4) (Kept.refl _ _) (fun k h => ⟨Nat.le_trans HX3.out.size h.1, h.2⟩))
      have HT4 := hid (z05.on HT3.out hx4)
      have d8 := (HD.out.ext HX4.out).c8
      have d5 := (HD.out.ext HX4.out).c5
      obtain ⟨a4, c4, rfl⟩ := hp4.form
      obtain ⟨n4, hn4⟩ : ∃ n, n = (ofP x).length := ⟨_, rfl⟩
      rw [← hn4] at HP4 ⊢
      clear hx4 hp4 d6 hn4
      have HQ4 := hid (HCQ.out w4 (.slice a1 n1 c1) HX4.out HT4.out)
      go_wp2_with fail
      with_reducible refine HQ4.out.mono ?_
      rintro e w5 ⟨v5, rfl, hp5, hx5⟩
      have HX5 := hid (HX4.out.trans hx5)
      have HP5 := hid (hp5.to (S' := New W w5) (Kept.refl _ _) (fun k h => ⟨Nat.le_trans HX4.out.size h.1, h.2⟩))
      have HP4' := hid (HP4.out.to (S' := New W w5) (Kept.ext hx5 (fun _ h => h.2)) (fun k h => ⟨h.1, Nat.lt_of_lt_of_le h.2 hx5.size⟩))
      obtain ⟨a5, c5, rfl⟩ := hp5.form
      obtain ⟨n5, hn5⟩ : ∃ n, n = (ofP y).length := ⟨_, rfl⟩
      rw [← hn5] at HP5 ⊢
      clear hx5 hp5 d8 d5 hn5
      go_wp2
      all_goals
       refine bodyPost_ret (v := .tuple #[.slice a5 n5 c5, .slice a4 n4 c4, .int .i64 0]) (by simp [results, Tryz.results173, go_sem]) rfl ?_
       exact ⟨_, _, rfl, HP5.out, HP4'.out, HX5.out⟩
end
section
open Go.RowKit
abbrev NC (o : Option Nat) (bd : Nat) (W : World) : Nat → Prop := fun k => k < W.heap.size ∧ some k ≠ o ∧ k ≠ bd
structure Gd (o : Option Nat) (bd : Nat) (W W' : World) : Prop where
 os : W'.os = W.os
 tape : W'.tape = W.tape
 output : W'.output = W.output
 size : W.heap.size ≤ W'.heap.size
 block : ∀ k, k < W.heap.size → some k ≠ o → k ≠ bd → W'.heap[k]? = W.heap[k]?
section
variable {o : Option Nat} {bd : Nat} {A B C W W' : World} {v : Value} {p : PZ} {s : MSt}
theorem Gd.refl (o : Option Nat) (bd : Nat) (W : World) : Gd o bd W W := ⟨rfl, rfl, rfl, Nat.le_refl _, fun _ _ _ _ => rfl⟩
theorem Gd.trans (h : Gd o bd A B) (k : Gd o bd B C) : Gd o bd A C :=
 ⟨k.os.trans h.os, k.tape.trans h.tape, k.output.trans h.output, Nat.le_trans h.size k.size, fun i h1 h2 h3 => (k.block i (Nat.lt_of_lt_of_le h1 h.size) h2 h3).trans (h.block i h1 h2 h3)⟩
theorem zcq (h : A.grownBy B o) : Gd o bd A B := ⟨h.os, h.tape, h.output, h.size, fun k h1 h2 _ => h.block k h1 h2⟩
theorem z23 (h : Ext A B) : Gd o bd A B := zcq (z07 h o)
theorem za7 (w : World) {a : Addr} (ha : a.block = bd) (u : Value) : Gd o bd w (w.setCell a u) := ⟨rfl, rfl, rfl, by simp [World.setCell], fun k _ _ h3 => Below.heap_setCell _ _ _ _ (fun e => h3 (by rw [e, ha]))⟩
theorem Gd.gb (h : Gd o bd A B) (hb : A.heap.size ≤ bd) : A.grownBy B o := ⟨h.os, h.tape, h.output, h.size, fun k h1 h2 => h.block k h1 h2 (by omega)⟩
theorem zp8 (g : Gd o bd W W') : Kept (NC o bd W) W W' := fun k h => g.block k h.1 h.2.1 h.2.2
theorem zp9 (g : W.heap.size ≤ W'.heap.size) : ∀ k, NC o bd W k → NC o bd W' k := fun _ h => ⟨Nat.lt_of_lt_of_le h.1 g, h.2⟩
abbrev PC (o : Option Nat) (bd : Nat) (W : World) (v : Value) (p : PZ) : Prop := z05 (NC o bd W) W v (ofP p)
theorem PC.pv (h : PC o bd W v p) : PV W v p := h.to (Kept.refl _ _) (fun _ h => h.1)
theorem PC.pm (h : PC o bd W v p) : PM o W v p := h.to (Kept.refl _ _) (fun _ h => ⟨h.1, h.2.1⟩)
theorem PC.on (h : PC o bd W v p) (g : Gd o bd W W') : PC o bd W' v p := h.to (zp8 g) (zp9 g.size)
abbrev PN (N : Nat) (o : Option Nat) (bd : Nat) (W : World) (v : Value) (p : PZ) : Prop := z05 (fun k => N ≤ k ∧ NC o bd W k) W v (ofP p)
theorem PN.pc {N : Nat} (h : PN N o bd W v p) : PC o bd W v p := h.to (Kept.refl _ _) (fun _ h => h.2)
theorem PN.on {N : Nat} (h : PN N o bd W v p) (g : Gd o bd W W') : PN N o bd W' v p := h.to (fun k hk => zp8 g k hk.2) (fun k hk => ⟨hk.1, zp9 g.size k hk.2⟩)
theorem PN.low {N M : Nat} (h : PN N o bd W v p) (hM : M ≤ N) : PN M o bd W v p := h.to (Kept.refl _ _) (fun _ h => ⟨Nat.le_trans hM h.1, h.2⟩)
theorem PN.pmn {N : Nat} (h : PN N o bd W v p) : PMN N o W v p := h.to (Kept.refl _ _) (fun _ h => ⟨h.1, h.2.1, h.2.2.1⟩)
theorem ztv (hm : ∀ b, o = some b → b < A.heap.size) (hb : bd < A.heap.size) : ∀ k, New A W' k → NC o bd W' k := fun k hk => ⟨hk.2, fun e => by have := hm k e.symm; have := hk.1; omega, fun e => by have := hk.1; omega⟩
theorem MV.set (h : MV W o s) (hob : ∀ b, o = some b → b ≠ bd) {a : Addr} (ha : a.block = bd) (u : Value) : MV (W.setCell a u) o s := fun b hb => by
 refine ⟨(h b hb).1.grown (r := some bd) (z27 (z26 W (some bd)) ha u) (fun e => hob b hb (Option.some.inj e)), (h b hb).2⟩
end
def z2w (o : Option Nat) (keep : Bool) (g h : PZ) (v d : Int) (s : MSt) (q r : PZ) : Int × MSt × Option (PZ × PZ) :=
 if (z15 o s).1 ≠ 0 then ((z15 o s).1, (z15 o s).2, none) else
 match z2o keep g h v d q r with
 | none => (8, mexp o (z15 o s).2, none)
 | some x =>
  if (z0o o (z15 o s).2 x.2).1 ≠ 0 then ((z0o o (z15 o s).2 x.2).1, (z0o o (z15 o s).2 x.2).2, none) else
  if (z0o o (z15 o s).2 x.1).1 ≠ 0 then ((z0o o (z15 o s).2 x.1).1, (z0o o (z15 o s).2 x.1).2, none) else
  (0, (z15 o s).2, some x)
theorem z2c (o : Option Nat) (keep : Bool) (g h : PZ) (v d : Int) (k : Nat) (s : MSt) (q r : PZ) (n : Nat) :
  runD o keep g h v d (k + 1) s q r n = if r = [] ∨ degP r v < d then ⟨0, q, r, n, s⟩ else
   match (z2w o keep g h v d s q r).2.2 with
   | none => ⟨(z2w o keep g h v d s q r).1, [], [], 0, (z2w o keep g h v d s q r).2.1⟩
   | some x => runD o keep g h v d k (z2w o keep g h v d s q r).2.1 x.1 x.2 (n + 1) := by
 rw [runD]
 unfold z2w
 split
 ·rfl
 split
 ·rfl
 cases z2o keep g h v d q r with
 | none => rfl
 | some x =>
  simp only
  split
  ·rfl
  split
  ·rfl
  ·rfl
theorem zlo {o : Option Nat} {keep : Bool} {g h : PZ} {v d : Int} {s : MSt} {q r : PZ} {x : PZ × PZ} (hx : (z2w o keep g h v d s q r).2.2 = some x) :
  (z2w o keep g h v d s q r).1 = 0 ∧ (z15 o s).1 = 0 ∧ z2o keep g h v d q r = some x ∧ (z0o o (z15 o s).2 x.2).1 = 0 ∧ (z0o o (z15 o s).2 x.1).1 = 0 ∧ (z2w o keep g h v d s q r).2.1 = (z15 o s).2 := by
 unfold z2w at hx ⊢
 by_cases h1 : (z15 o s).1 ≠ 0
 ·rw [if_pos h1] at hx; cases hx
 rw [if_neg h1] at hx ⊢
 cases hst : z2o keep g h v d q r with
 | none => rw [hst] at hx; cases hx
 | some y =>
  rw [hst] at hx
  simp only at hx ⊢
  by_cases h2 : (z0o o (z15 o s).2 y.2).1 ≠ 0
  ·rw [if_pos h2] at hx; cases hx
  rw [if_neg h2] at hx ⊢
  by_cases h3 : (z0o o (z15 o s).2 y.1).1 ≠ 0
  ·rw [if_pos h3] at hx; cases hx
  rw [if_neg h3] at hx ⊢
  cases hx
  exact ⟨rfl, Decidable.not_not.1 h1, rfl, Decidable.not_not.1 h2, Decidable.not_not.1 h3, rfl⟩
theorem zlp {o : Option Nat} {keep : Bool} {g h : PZ} {v d : Int} {s : MSt} {q r : PZ} (hx : (z2w o keep g h v d s q r).2.2 = none) : (z2w o keep g h v d s q r).1 ≠ 0 := by
 unfold z2w at hx ⊢
 by_cases h1 : (z15 o s).1 ≠ 0
 ·rw [if_pos h1]; exact h1
 rw [if_neg h1] at hx ⊢
 cases hst : z2o keep g h v d q r with
 | none => show (8 : Int) ≠ 0; decide
 | some y =>
  rw [hst] at hx
  simp only at hx ⊢
  by_cases h2 : (z0o o (z15 o s).2 y.2).1 ≠ 0
  ·rw [if_pos h2]; exact h2
  rw [if_neg h2] at hx ⊢
  by_cases h3 : (z0o o (z15 o s).2 y.1).1 ≠ 0
  ·rw [if_pos h3]; exact h3
  ·rw [if_neg h3] at hx; cases hx
def zsd (W : World) (o : Option Nat) (bd : Nat) (v d : Int) (vg vh : Value) (n : Int) (keep : Bool) (X : Int × MSt × Option (PZ × PZ)) : Ending → World → Prop := fun e W' =>
 e = .returned (.int .i64 X.1) ∧ MV W' o X.2.1 ∧ Gd o bd W W' ∧ ∀ x, X.2.2 = some x → ∃ vq vr, DivAt W' bd (mval o) v d vg vh vq vr (n + 1) keep ∧ PN W.heap.size o bd W' vq x.1 ∧ PN W.heap.size o bd W' vr x.2
theorem zse {W : World} {o : Option Nat} {s : MSt} {bd : Nat} {vg vh vq vr : Value} {v d n : Int} {keep : Bool} {g h q r : PZ} {A B T M : Nat} (D : DivAt W bd (mval o) v d vg vh vq vr n keep) (hM : MV W o s) (hob : ∀ b, o = some b → b ≠ bd) (hg : PC o bd W vg g) (hh : PC o bd W vh h) (hq : PC o bd W vq q) (hr : PC o bd W vr r)
  (fg : Fit A T g) (fh : Fit A T h) (fq : Fit B M q) (fr : Fit B M r) (hA : A < 24) (hB : B ≤ 80000) (hT : 1 ≤ T) (hTM : 2 * T * M ≤ 1000000000000) (hv : 1 ≤ v ∧ v ≤ 200) (hd : 0 ≤ d) (hdr : d ≤ degP r v) (hn : 0 ≤ n ∧ n ≤ 1000000) :
  Calls Tryz.prog 144 #[.pointer (some ⟨bd, 0, none⟩)] W (zsd W o bd v d vg vh n keep (z2w o keep g h v d s q r)) := by
 have hmf : ∀ (fn : Fn) (first cap : Array Value) (w : World), (Instr.makeFunc fn first cap).run Tryz.prog w = .ok (.func fn first cap) w := fun _ _ _ _ => rfl
 have hsbd : some bd ≠ o := fun e => hob bd e.symm rfl
 have HSB := hid hsbd
 have HOB := hid hob
 have HD := hid D
 have C1 := zx5 hM
 have CM := fun (Y : World) (hY : W.grownBy Y o) => zsc (D.same (hY.block bd D.lt hsbd)) (hg.pm.on hY).pv (hh.pm.on hY).pv (hq.pm.on hY).pv (hr.pm.on hY).pv fg fh fq fr hA hB hT hTM hv hd hdr
 have CX := fun (Y : World) (t : MSt) (hY : MV Y o t) => zs5 hY
 have CK := fun (Y : World) (t : MSt) (u : Value) (p : PZ) (hY : MV Y o t) (hu : PM o Y u p) => ztt hY hu
 have HBM := hid (fun b hb => hM.block (b := b) hb)
 have HLT := hid D.lt
 obtain ⟨vm, hvm⟩ : ∃ x, x = mval o := ⟨_, rfl⟩
 rw [← hvm] at D C1 CX CK
 have HVM := hid hvm
 have d0 := D.c0
 obtain ⟨n1, n2⟩ := hn
 unfold z2w
 generalize hm : z15 o s = m at C1 ⊢
 obtain ⟨c1, s1⟩ := m
 simp only at C1 ⊢
 have HC1 := hid C1
 have HCM := hid CM
 have HCX := hid CX
 have HCK := hid CK
 clear C1 CM CX CK hM hob hg hh hq hr fg fh fq fr hA hB hT hTM hv hd hdr hvm hsbd hm D
 by_cases hc : c1 ≠ 0
 ·rw [if_pos hc]
  have q1 : (c1 != 0) = true := by rw [bne_iff_ne]; exact hc
  clear hc
  go_enter Tryz.func144, Tryz.ntmps144
  go_wp2_with fail
  with_reducible refine HC1.out.mono ?_
  rintro e w1 ⟨rfl, hm1, hg1⟩
  have HM1 := hid hm1
  have HG1 := hid hg1
  clear hm1 hg1
  go_wp2
  all_goals
   go_ret
   exact ⟨rfl, HM1.out, zcq HG1.out, fun x h => (by cases h)⟩
 ·rw [if_neg hc]
  have q1 : (c1 != 0) = false := by rw [bne_eq_false_iff_eq]; exact Decidable.not_not.1 hc
  clear hc
  generalize z2o keep g h v d q r = R at HCM ⊢
  cases R with
  | none =>
   simp only
   go_enter Tryz.func144, Tryz.ntmps144
   go_wp2_with fail
   with_reducible refine HC1.out.mono ?_
   rintro e w1 ⟨rfl, hm1, hg1⟩
   have HM1 := hid hm1
   have HG1 := hid hg1
   have HMA := hid (HCM.out w1 hg1)
   clear hm1 hg1
   go_wp2_with fail
   with_reducible refine HMA.out.mono ?_
   rintro e w2 ⟨a, b, rfl, hx2⟩
   have HG2 := hid (z06 HG1.out (z07 hx2 o))
   have HX := hid (HCX.out w2 s1 (HM1.out.ext hx2))
   have e0 : w2.cell? ⟨bd, 0, none⟩ = some vm := by rw [HVM.out]; exact (HD.out.same (HG2.out.block bd HLT.out HSB.out)).c0
   clear hx2 d0
   go_wp2_with fail
   with_reducible refine HX.out.mono ?_
   rintro e w3 ⟨rfl, hm3, hg3⟩
   have HM3 := hid hm3
   have HG3 := hid (z06 HG2.out hg3)
   clear hm3 hg3
   go_wp2
   all_goals
    go_ret
    exact ⟨rfl, HM3.out, zcq HG3.out, fun x h => (by cases h)⟩
  | some x =>
   simp only
   generalize hk1 : z0o o s1 x.2 = k1
   obtain ⟨c2, s2⟩ := k1
   generalize hk2 : z0o o s1 x.1 = k2
   obtain ⟨c3, s3⟩ := k2
   have HK1 := hid hk1
   have HK2 := hid hk2
   have HE1 : Hid (c2 = 0 → s2 = s1) := hid (fun h => by have := z4f (o := o) (s := s1) (p := x.2) (by rw [hk1]; exact h); rw [hk1] at this; exact this)
   have HE2 : Hid (c3 = 0 → s3 = s1) := hid (fun h => by have := z4f (o := o) (s := s1) (p := x.1) (by rw [hk2]; exact h); rw [hk2] at this; exact this)
   simp only
   clear hk1 hk2
   by_cases hc2 : c2 ≠ 0
   ·rw [if_pos hc2]
    have q2 : (c2 != 0) = true := by rw [bne_iff_ne]; exact hc2
    clear hc2
    go_enter Tryz.func144, Tryz.ntmps144
    go_wp2_with fail
    with_reducible refine HC1.out.mono ?_
    rintro e w1 ⟨rfl, hm1, hg1⟩
    have HM1 := hid hm1
    have HG1 := hid hg1
    have HMA := hid (HCM.out w1 hg1)
    clear hm1 hg1
    go_wp2_with fail
    with_reducible refine HMA.out.mono ?_
    rintro e w2 ⟨a, b, rfl, hpa, hpb, hx2⟩
    have HG2 := hid (z06 HG1.out (z07 hx2 o))
    have HB1 := hid (hpb.to (S' := NB o w2) (Kept.refl _ _) (zp3 (z92 HG1.out HBM.out)))
    have HK := HCK.out w2 s1 b x.2 (HM1.out.ext hx2) HB1.out
    rw [HK1.out] at HK
    have HKK := hid HK
    obtain ⟨aa, ca, rfl⟩ := hpa.form
    obtain ⟨ab, cb, rfl⟩ := hpb.form
    obtain ⟨na, hna⟩ : ∃ n, n = (ofP x.1).length := ⟨_, rfl⟩
    obtain ⟨nb, hnb⟩ : ∃ n, n = (ofP x.2).length := ⟨_, rfl⟩
    rw [← hnb] at HKK
    rw [← hna, ← hnb]
    have e0 : w2.cell? ⟨bd, 0, none⟩ = some vm := by rw [HVM.out]; exact (HD.out.same (HG2.out.block bd HLT.out HSB.out)).c0
    clear hx2 d0 hpa hpb hna hnb HK HB1
    go_wp2_with fail
    with_reducible refine HKK.out.mono ?_
    rintro e w3 ⟨rfl, hm3, hg3⟩
    have HM3 := hid hm3
    have HG3 := hid (z06 HG2.out hg3)
    clear hm3 hg3 e0
    go_wp2
    all_goals
     go_ret
     exact ⟨rfl, HM3.out, zcq HG3.out, fun x h => (by cases h)⟩
   ·rw [if_neg hc2]
    have q2 : (c2 != 0) = false := by rw [bne_eq_false_iff_eq]; exact Decidable.not_not.1 hc2
    have HS2 := hid (HE1.out (Decidable.not_not.1 hc2))
    clear hc2
    by_cases hc3 : c3 ≠ 0
    ·rw [if_pos hc3]
     have q3 : (c3 != 0) = true := by rw [bne_iff_ne]; exact hc3
     clear hc3
     go_enter Tryz.func144, Tryz.ntmps144
     go_wp2_with fail
     with_reducible refine HC1.out.mono ?_
     rintro e w1 ⟨rfl, hm1, hg1⟩
     have HM1 := hid hm1
     have HG1 := hid hg1
     have HMA := hid (HCM.out w1 hg1)
     clear hm1 hg1
     go_wp2_with fail
     with_reducible refine HMA.out.mono ?_
     rintro e w2 ⟨a, b, rfl, hpa, hpb, hx2⟩
     have HG2 := hid (z06 HG1.out (z07 hx2 o))
     have HB1 := hid (hpb.to (S' := NB o w2) (Kept.refl _ _) (zp3 (z92 HG1.out HBM.out)))
     have HA1 := hid (hpa.to (S' := NB o w2) (Kept.refl _ _) (zp3 (z92 HG1.out HBM.out)))
     have HK := HCK.out w2 s1 b x.2 (HM1.out.ext hx2) HB1.out
     rw [HK1.out, HS2.out] at HK
     have HKK := hid HK
     have HKA := fun (Y : World) (hY : MV Y o s1) (hg : w2.grownBy Y o) => HCK.out Y s1 a x.1 hY (PM.on HA1.out hg)
     rw [HK2.out] at HKA
     obtain ⟨aa, ca, rfl⟩ := hpa.form
     obtain ⟨ab, cb, rfl⟩ := hpb.form
     obtain ⟨na, hna⟩ : ∃ n, n = (ofP x.1).length := ⟨_, rfl⟩
     obtain ⟨nb, hnb⟩ : ∃ n, n = (ofP x.2).length := ⟨_, rfl⟩
     rw [← hnb] at HKK
     rw [← hna] at HKA
     have HKB := hid HKA
     rw [← hna, ← hnb]
     have e0 : w2.cell? ⟨bd, 0, none⟩ = some vm := by rw [HVM.out]; exact (HD.out.same (HG2.out.block bd HLT.out HSB.out)).c0
     clear hx2 d0 hpa hpb hna hnb HK HB1 HA1 HKA
     go_wp2_with fail
     with_reducible refine HKK.out.mono ?_
     rintro e w3 ⟨rfl, hm3, hg3⟩
     have HKC := hid (HKB.out w3 hm3 hg3)
     have HG3 := hid (z06 HG2.out hg3)
     clear hm3 hg3 e0
     go_wp2_with fail
     with_reducible refine HKC.out.mono ?_
     rintro e w4 ⟨rfl, hm4, hg4⟩
     have HM4 := hid hm4
     have HG4 := hid (z06 HG3.out hg4)
     clear hm4 hg4
     go_wp2
     all_goals
      go_ret
      exact ⟨rfl, HM4.out, zcq HG4.out, fun x h => (by cases h)⟩
    ·rw [if_neg hc3]
     have q3 : (c3 != 0) = false := by rw [bne_eq_false_iff_eq]; exact Decidable.not_not.1 hc3
     have HS3 := hid (HE2.out (Decidable.not_not.1 hc3))
     clear hc3
     go_enter Tryz.func144, Tryz.ntmps144
     go_wp2_with fail
     with_reducible refine HC1.out.mono ?_
     rintro e w1 ⟨rfl, hm1, hg1⟩
     have HM1 := hid hm1
     have HG1 := hid hg1
     have HMA := hid (HCM.out w1 hg1)
     clear hm1 hg1
     go_wp2_with fail
     with_reducible refine HMA.out.mono ?_
     rintro e w2 ⟨a, b, rfl, hpa, hpb, hx2⟩
     have HG2 := hid (z06 HG1.out (z07 hx2 o))
     have HB1 := hid (hpb.to (S' := fun k => W.heap.size ≤ k ∧ NC o bd w2 k) (Kept.refl _ _) (fun k hk => ⟨Nat.le_trans HG1.out.size hk.1, ztv (z92 HG1.out HBM.out) (Nat.lt_of_lt_of_le HLT.out HG1.out.size) k hk⟩))
     have HA1 := hid (hpa.to (S' := fun k => W.heap.size ≤ k ∧ NC o bd w2 k) (Kept.refl _ _) (fun k hk => ⟨Nat.le_trans HG1.out.size hk.1, ztv (z92 HG1.out HBM.out) (Nat.lt_of_lt_of_le HLT.out HG1.out.size) k hk⟩))
     have HK := HCK.out w2 s1 b x.2 (HM1.out.ext hx2) (PC.pm (PN.pc HB1.out))
     rw [HK1.out, HS2.out] at HK
     have HKK := hid HK
     have HKA := fun (Y : World) (hY : MV Y o s1) (hg : w2.grownBy Y o) => HCK.out Y s1 a x.1 hY (PM.on (PC.pm (PN.pc HA1.out)) hg)
     rw [HK2.out, HS3.out] at HKA
     obtain ⟨aa, ca, rfl⟩ := hpa.form
     obtain ⟨ab, cb, rfl⟩ := hpb.form
     obtain ⟨na, hna⟩ : ∃ n, n = (ofP x.1).length := ⟨_, rfl⟩
     obtain ⟨nb, hnb⟩ : ∃ n, n = (ofP x.2).length := ⟨_, rfl⟩
     rw [← hnb] at HKK HB1
     rw [← hna] at HKA HA1
     have HKB := hid HKA
     rw [← hna, ← hnb]
     have e0 : w2.cell? ⟨bd, 0, none⟩ = some vm := by rw [HVM.out]; exact (HD.out.same (HG2.out.block bd HLT.out HSB.out)).c0
     clear hx2 d0 hpa hpb hna hnb HK HKA
     go_wp2_with fail
     with_reducible refine HKK.out.mono ?_
     rintro e w3 ⟨rfl, hm3, hg3⟩
     have HKC := hid (HKB.out w3 hm3 hg3)
     have HG3 := hid (z06 HG2.out hg3)
     have HG23 := hid hg3
     clear hm3 hg3 e0
     go_wp2_with fail
     with_reducible refine HKC.out.mono ?_
     rintro e w4 ⟨rfl, hm4, hg4⟩
     have HM4 := hid hm4
     have HG4 := hid (z06 HG3.out hg4)
     have HA4 := hid (PN.on HA1.out (zcq (z06 HG23.out hg4)))
     have HB4 := hid (PN.on HB1.out (zcq (z06 HG23.out hg4)))
     have HD4 := hid (HD.out.same (HG4.out.block bd HLT.out HSB.out))
     have e7 := HD4.out.c7
     have e5 := HD4.out.c5
     have e6 := HD4.out.c6
     have z5 := HD4.out.fz 5
     have z6 := HD4.out.fz 6
     have z7 := HD4.out.fz 7
     have HE5 := hid e5
     have HE6 := hid e6
     have HE7 := hid e7
     clear hm4 hg4
     go_wp2
     all_goals
      go_ret
      obtain ⟨W5, hW5⟩ : ∃ X, X = w4.setCell ⟨bd, 5, none⟩ (.slice aa na ca) := ⟨_, rfl⟩
      obtain ⟨W6, hW6⟩ : ∃ X, X = W5.setCell ⟨bd, 6, none⟩ (.slice ab nb cb) := ⟨_, rfl⟩
      obtain ⟨W7, hW7⟩ : ∃ X, X = W6.setCell ⟨bd, 7, none⟩ (.int .i64 (n + 1)) := ⟨_, rfl⟩
      rw [← hW5, ← hW6, ← hW7]
      have k5 : ∀ (i : Nat) (u : Value), i ≠ 5 → w4.cell? ⟨bd, i, none⟩ = some u → W5.cell? ⟨bd, i, none⟩ = some u := fun i u h5 h => by rw [hW5]; exact z0b h (ao (fun e => h5 e.symm))
      have k6 : ∀ (i : Nat) (u : Value), i ≠ 6 → W5.cell? ⟨bd, i, none⟩ = some u → W6.cell? ⟨bd, i, none⟩ = some u := fun i u h5 h => by rw [hW6]; exact z0b h (ao (fun e => h5 e.symm))
      have k7 : ∀ (i : Nat) (u : Value), i ≠ 7 → W6.cell? ⟨bd, i, none⟩ = some u → W7.cell? ⟨bd, i, none⟩ = some u := fun i u h5 h => by rw [hW7]; exact z0b h (ao (fun e => h5 e.symm))
      have m5 : W5.cell? ⟨bd, 5, none⟩ = some (.slice aa na ca) := by rw [hW5]; exact z1f HE5.out
      have m6 : W6.cell? ⟨bd, 6, none⟩ = some (.slice ab nb cb) := by rw [hW6]; exact z1f (k5 6 _ (by decide) HE6.out)
      have m7 : W7.cell? ⟨bd, 7, none⟩ = some (.int .i64 (n + 1)) := by rw [hW7]; exact z1f (k6 7 _ (by decide) (k5 7 _ (by decide) HE7.out))
      have g5 : Gd o bd w4 W5 := by rw [hW5]; exact za7 w4 (a := ⟨bd, 5, none⟩) rfl _
      have g6 : Gd o bd W5 W6 := by rw [hW6]; exact za7 W5 (a := ⟨bd, 6, none⟩) rfl _
      have g7 : Gd o bd W6 W7 := by rw [hW7]; exact za7 W6 (a := ⟨bd, 7, none⟩) rfl _
      have v5 : MV W5 o s1 := by rw [hW5]; exact HM4.out.set HOB.out (a := ⟨bd, 5, none⟩) rfl _
      have v6 : MV W6 o s1 := by rw [hW6]; exact v5.set HOB.out (a := ⟨bd, 6, none⟩) rfl _
      have v7 : MV W7 o s1 := by rw [hW7]; exact v6.set HOB.out (a := ⟨bd, 7, none⟩) rfl _
      have fz : ∀ i, W7.frozen? ⟨bd, i, none⟩ = false := fun i => by rw [hW7]; refine z1k ?_; rw [hW6]; refine z1k ?_; rw [hW5]; exact z1k (HD4.out.fz i)
      have gs : Gd o bd w4 W7 := (g5.trans g6).trans g7
      have kk : ∀ (i : Nat) (u : Value), i ≠ 5 → i ≠ 6 → i ≠ 7 → w4.cell? ⟨bd, i, none⟩ = some u → W7.cell? ⟨bd, i, none⟩ = some u := fun i u h5 h6 h7 h => k7 i u h7 (k6 i u h6 (k5 i u h5 h))
      have D7 : DivAt W7 bd (mval o) v d vg vh (.slice aa na ca) (.slice ab nb cb) (n + 1) keep :=
       ⟨kk 0 _ (by decide) (by decide) (by decide) HD4.out.c0, kk 1 _ (by decide) (by decide) (by decide) HD4.out.c1, kk 2 _ (by decide) (by decide) (by decide) HD4.out.c2, kk 3 _ (by decide) (by decide) (by decide) HD4.out.c3, kk 4 _ (by decide) (by decide) (by decide) HD4.out.c4, k7 5 _ (by decide) (k6 5 _ (by decide) m5), k7 6 _ (by decide) m6, m7, kk 8 _ (by decide) (by decide) (by decide) HD4.out.c8, fz⟩
      refine ⟨rfl, v7, (zcq HG4.out).trans gs, fun y hy => ?_⟩
      obtain rfl : x = y := Option.some.inj hy
      exact ⟨_, _, D7, PN.on HA4.out gs, PN.on HB4.out gs⟩
end
section
section
variable {g f : PZ} {v : Int}
def divD (o : Option Nat) (keep : Bool) (s : MSt) (f g : PZ) (v : Int) : DRes := runD o keep g (z18 g v) v (degP g v) ((degP f v).toNat + 1) s [] f 0
theorem zpa {o : Option Nat} {keep : Bool} {d : Int} {h : PZ} : ∀ (k : Nat) (s : MSt) (q r : PZ) (n : Nat),
  (runD o keep g h v d k s q r n).e = 0 ∨ ((runD o keep g h v d k s q r n).q = [] ∧ (runD o keep g h v d k s q r n).r = [] ∧ (runD o keep g h v d k s q r n).n = 0) := by
 intro k
 induction k with
 | zero => intros; exact .inl rfl
 | succ k ih =>
  intro s q r n
  rw [runD]
  split
  ·exact .inl rfl
  split
  ·exact .inr ⟨rfl, rfl, rfl⟩
  split
  ·exact .inr ⟨rfl, rfl, rfl⟩
  split
  ·exact .inr ⟨rfl, rfl, rfl⟩
  split
  ·exact .inr ⟨rfl, rfl, rfl⟩
  ·exact ih _ _ _ _
/-! By a meter as without one -/
end
end
section
section
variable {a b c : PZ}
end
section
variable {p g f : PZ} {v : Int}
end
end
section
def powN (h : PZ) : Nat → Option PZ
 | 0 => some [(1, [])]
 | n + 1 => match powN h n with
  | none => none
  | some p => z0e p h
theorem zi1 {h : PZ} {G : Int} (ch : canP h) (eh : exB G h) (hG : 0 ≤ G) : ∀ n : Nat, (n : Int) * G ≤ 10000 → ∃ P, powN h n = some P ∧ canP P ∧ Eqv P (hpow h n) ∧ exB ((n : Int) * G) P
 | 0, _ => ⟨[(1, [])], rfl, z7l, Eqv.refl _, fun t ht u => by rw [List.mem_singleton.1 ht]; show ex [] u ≤ _; simp [ex]⟩
 | n + 1, hn => by
  have e1 : ((n + 1 : Nat) : Int) * G = n * G + G := by rw [Int.natCast_add, Int.add_mul, show ((1 : Nat) : Int) = 1 from rfl, Int.one_mul]
  rw [e1] at hn ⊢
  obtain ⟨P, c0, c1, c2, c3⟩ := zi1 ch eh hG n (by omega)
  obtain ⟨Q, hQ, d1, d2, d3, -⟩ := c3.times eh c1 ch hn
  exact ⟨Q, by rw [powN, c0]; exact hQ, d1, d3.trans (Eqv.mul c2 (Eqv.refl h)), d2⟩
theorem zsf : Fit 1 1 [((1 : Int), ([] : Mono))] := ⟨z7l, fun t ht => by rw [List.mem_singleton.1 ht]; show (1 : Int).natAbs < _; decide, Nat.le_refl _⟩
theorem z93 {h : PZ} {A T : Nat} (fh : Fit A T h) (hT : 1 ≤ T) : ∀ (n : Nat) (P : PZ), T ^ n ≤ 1000000000000 → powN h n = some P → Fit (1 + n * (A + 2)) (T ^ n) P
 | 0, P, _, hP => by
  have e : some [((1 : Int), ([] : Mono))] = some P := hP
  cases e
  exact zsf.mono (by omega) (Nat.le_refl _)
 | n + 1, P, hn, hP => by
  have h1 : T ^ n ≤ T ^ (n + 1) := Nat.pow_le_pow_right hT (Nat.le_succ n)
  rw [powN] at hP
  cases hp : powN h n with
  | none => rw [hp] at hP; cases hP
  | some p =>
   rw [hp] at hP
   have f1 := z93 fh hT n p (Nat.le_trans h1 hn) hp
   have f2 := f1.times fh hP (by rw [← Nat.pow_succ]; exact hn)
   exact f2.mono (by rw [Nat.add_mul]; omega) (by rw [Nat.pow_succ]; exact Nat.le_refl _)
section
variable {g f h q r : PZ} {v d : Int} {o : Option Nat} {keep : Bool} {B M : Nat}
theorem z3g.now : ∀ {k : Nat} {s : MSt} {q r : PZ}, z3g o keep g h v d B M k s q r → Fit B M q ∧ Fit B M r
 | 0, _, _, _, h => h
 | _ + 1, _, _, _, h => ⟨h.1, h.2.1⟩
theorem zvn : ∀ (k : Nat) (s : MSt) (q r : PZ) (n : Nat), z3g o keep g h v d B M k s q r →
  Fit B M (runD o keep g h v d k s q r n).q ∧ Fit B M (runD o keep g h v d k s q r n).r := by
 intro k
 induction k with
 | zero => intro s q r n h; exact h
 | succ k ih =>
  intro s q r n hF
  obtain ⟨h1, h2, hF⟩ := hF
  have fn : Fit B M [] := z6t.mono (Nat.zero_le _) (Nat.zero_le _)
  rw [runD]
  by_cases hx : r = [] ∨ degP r v < d
  ·rw [if_pos hx]; exact ⟨h1, h2⟩
  rw [if_neg hx]
  by_cases g1 : (z15 o s).1 ≠ 0
  ·rw [if_pos g1]; exact ⟨fn, fn⟩
  rw [if_neg g1]
  cases hst : z2o keep g h v d q r with
  | none => exact ⟨fn, fn⟩
  | some x =>
   simp only
   by_cases g2 : (z0o o (z15 o s).2 x.2).1 ≠ 0
   ·rw [if_pos g2]; exact ⟨fn, fn⟩
   rw [if_neg g2]
   by_cases g3 : (z0o o (z15 o s).2 x.1).1 ≠ 0
   ·rw [if_pos g3]; exact ⟨fn, fn⟩
   rw [if_neg g3]
   have hr0 : r ≠ [] := fun e => hx (.inl e)
   have hdr : d ≤ degP r v := by
    rcases Int.lt_or_le (degP r v) d with h | h
    ·exact absurd (.inr h) hx
    ·exact h
   exact ih _ _ _ _ (hF hr0 hdr (Decidable.not_not.1 g1) x hst (Decidable.not_not.1 g2) (Decidable.not_not.1 g3))
end
end
section
open Go.RowKit
def zpb (W : World) (vm : Value) (v d : Int) (vg : Value) (h f : PZ) (keep : Bool) : Ending → World → Prop := fun e W' =>
 ∃ bd vh vr, e = .returned (.tuple #[.pointer (some ⟨bd, 0, none⟩), .int .i64 0]) ∧ W.heap.size ≤ bd ∧ DivAt W' bd vm v d vg vh (.slice none 0 0) vr 0 keep ∧
  z05 (fun k => New W W' k ∧ k ≠ bd) W' vh (ofP h) ∧ z05 (fun k => New W W' k ∧ k ≠ bd) W' vr (ofP f) ∧ Ext W W'
theorem zpc {W : World} {vm vf vg : Value} {v : Int} {keep : Bool} {f g : PZ} {A B T M : Nat} (hvm : ∃ a, vm = .pointer a) (hf : PV W vf f) (hg : PV W vg g) (ff : Fit B M f) (fg : Fit A T g) (hA : A ≤ 1000000) (hB : B ≤ 1000000) (hT : T ≤ 1000000000000) (hM : M ≤ 1000000000000) (hv : 1 ≤ v ∧ v ≤ 200) (hd : 1 ≤ degP g v) :
  Calls Tryz.prog 143 #[vm, vf, vg, .int .i64 v, .bool keep] W (zpb W vm v (degP g v) vg (z18 g v) f keep) := by
 have hnot : ∀ (x : Bool) (w : World), (Op.unary .not (.bool x)).run Tryz.prog w = .ok (.bool (!x)) w := fun _ _ => rfl
 obtain ⟨pa, rfl⟩ := hvm
 have HX0 := hid (Ext.refl W)
 have hr := z0u fg.can.may v
 have C1 := hid (zlm hf ff hB)
 have C2 := hid (fun (Y : World) (hY : Ext W Y) => zlm (z05.on hg hY) fg hA)
 have C3 := hid (fun (Y : World) (hY : Ext W Y) => zap (z05.on hg hY) fg hA (x := v) (by unfold z12; omega))
 have C4 := fun (Y : World) (hY : Ext W Y) => zov (z05.on hf hY) (z05.nilv (Old Y) Y none 0 (by decide)) ff z6t hB (by decide) (by omega)
 rw [List.append_nil, z2n ff.can] at C4
 have HC4 := hid C4
 have C5 := hid (fun (Y : World) (hY : Ext W Y) => ztu (z05.on hg hY) fg hA hT hv)
 obtain ⟨af, cf, rfl⟩ := hf.form
 obtain ⟨ag, cg, rfl⟩ := hg.form
 obtain ⟨nf, hnf⟩ : ∃ n, n = (ofP f).length := ⟨_, rfl⟩
 obtain ⟨ng, hng⟩ : ∃ n, n = (ofP g).length := ⟨_, rfl⟩
 obtain ⟨nh, hnh⟩ : ∃ n, n = (ofP (z18 g v)).length := ⟨_, rfl⟩
 have HNH := hid hnh
 have HNF := hid hnf
 rw [← hnf] at C1 HC4 ⊢
 rw [← hng] at C2 C3 C5 ⊢
 obtain ⟨d, hd2⟩ : ∃ d, d = degP g v := ⟨_, rfl⟩
 rw [← hd2] at C3 hd hr ⊢
 have q1 : decide (v < 1) = false := decide_eq_false (by omega)
 have q2 : decide (200 < v) = false := decide_eq_false (by omega)
 have q3 : decide (d < 1) = false := decide_eq_false (by omega)
 clear hf hg ff fg C4 hnf hng hnh hd2
 go_enter Tryz.func143, Tryz.ntmps143
 go_wp2_with fail
 with_reducible refine C1.out.mono ?_
 rintro e w1 ⟨rfl, hx1⟩
 have HX1 := hid hx1
 have D2 := hid (C2.out w1 hx1)
 clear hx1
 go_wp2_with fail
 with_reducible refine D2.out.mono ?_
 rintro e w2 ⟨rfl, hx2⟩
 have HX2 := hid (HX1.out.trans hx2)
 have D3 := hid (C3.out w2 HX2.out)
 clear hx2
 go_wp2_with fail
 with_reducible refine D3.out.mono ?_
 rintro e w3 ⟨rfl, hx3⟩
 have HX3 := hid (HX2.out.trans hx3)
 have D4 := hid (HC4.out w3 HX3.out)
 clear hx3
 go_wp2_with fail
 with_reducible refine D4.out.mono ?_
 rintro e w4 ⟨v4, rfl, hp4, hx4⟩
 have HX4 := hid (HX3.out.trans hx4)
 have HP4 := hid (hp4.to (S' := New W w4) (Kept.refl _ _) (fun k h => ⟨Nat.le_trans HX3.out.size h.1, h.2⟩))
 have D5 := hid (C3.out w4 HX4.out)
 obtain ⟨a4, c4, rfl⟩ := hp4.form
 rw [← HNF.out] at HP4
 rw [← HNF.out]
 clear hx4 hp4
 go_wp2_with fail
 with_reducible refine D5.out.mono ?_
 rintro e w5 ⟨rfl, hx5⟩
 have HX5 := hid (HX4.out.trans hx5)
 have HX45 := hid hx5
 have D6 := hid (C5.out w5 HX5.out)
 clear hx5
 go_wp2_with fail
 with_reducible refine D6.out.mono ?_
 rintro e w6 ⟨v6, rfl, hp6, hx6⟩
 have HX6 := hid (HX5.out.trans hx6)
 have HX46 := hid (HX45.out.trans hx6)
 have HP6 := hid (hp6.to (S' := New W w6) (Kept.refl _ _) (fun k h => ⟨Nat.le_trans HX5.out.size h.1, h.2⟩))
 obtain ⟨a6, c6, rfl⟩ := hp6.form
 rw [← HNH.out] at HP6
 rw [← HNH.out]
 clear hx6 hp6
 go_wp2
 all_goals
  go_ret2
  have hx7 : Ext w6 (w6.alloc (.cells #[.pointer pa, .int .i64 v, .int .i64 d, .slice ag ng cg, .slice a6 nh c6, .slice none 0 0, .slice a4 nf c4, .int .i64 0, .bool keep] 175)) := Ext.alloc (Ext.refl w6) _
  have hs : w6.heap.size < (w6.alloc (.cells #[.pointer pa, .int .i64 v, .int .i64 d, .slice ag ng cg, .slice a6 nh c6, .slice none 0 0, .slice a4 nf c4, .int .i64 0, .bool keep] 175)).heap.size := by rw [z02]; omega
  refine ⟨w6.heap.size, .slice a6 nh c6, .slice a4 nf c4, rfl, HX6.out.size, ⟨z01 _ _ _ rfl rfl, z01 _ _ _ rfl rfl, z01 _ _ _ rfl rfl, z01 _ _ _ rfl rfl, z01 _ _ _ rfl rfl, z01 _ _ _ rfl rfl, z01 _ _ _ rfl rfl, z01 _ _ _ rfl rfl, z01 _ _ _ rfl rfl, fun i => z2r _ _ _⟩, ?_, ?_, HX6.out.trans hx7⟩
  ·exact HP6.out.to (Kept.ext hx7 (fun _ h => h.2)) (fun k h => ⟨⟨h.1, Nat.lt_trans h.2 hs⟩, by have := h.2; omega⟩)
  ·exact HP4.out.to (Kept.ext (HX46.out.trans hx7) (fun _ h => h.2)) (fun k h => ⟨⟨h.1, Nat.lt_of_lt_of_le h.2 (Nat.le_trans HX46.out.size (Nat.le_of_lt hs))⟩, by have := h.2; have := HX46.out.size; omega⟩)
end
section
open Go.RowKit
def zej (w : World) (a : Addr) : Nat := match w.cell? a with
 | some (.int _ n) => n.toNat
 | _ => 0
theorem zdf {w : World} {a : Addr} {k : IntKind} {n : Int} (h : w.cell? a = some (.int k n)) : zej w a = n.toNat := by unfold zej; rw [h]
def meas (K : Nat) (e : Value) (n : Nat) : Nat := if intOf e = 0 then K + 2 - n else 0
theorem zek (K : Nat) (n : Nat) : meas K (.int .i64 0) n = K + 2 - n := if_pos rfl
theorem zsg {K : Nat} {c : Int} (h : c ≠ 0) {n : Nat} : meas K (.int .i64 c) n = 0 := if_neg h
def zvo (W : World) (o : Option Nat) (R : DRes) : Ending → World → Prop := fun e W' => ∃ bd, e = .returned (.tuple #[.pointer (some ⟨bd, 0, none⟩), .int .i64 R.e]) ∧ MV W' o R.s ∧ W.grownBy W' o ∧
 (R.e = 0 → ∃ vq vr, W'.cell? ⟨bd, 5, none⟩ = some vq ∧ W'.cell? ⟨bd, 6, none⟩ = some vr ∧ W'.cell? ⟨bd, 7, none⟩ = some (.int .i64 (R.n : Nat)) ∧ PMN W.heap.size o W' vq R.q ∧ PMN W.heap.size o W' vr R.r)
theorem zpd {W : World} {o : Option Nat} {s : MSt} {vf vg : Value} {v : Int} {keep : Bool} {f g : PZ} {A B T M : Nat} (hM : MV W o s) (hf : PM o W vf f) (hg : PM o W vg g) (fg : Fit A T g) (hF : z3g o keep g (z18 g v) v (degP g v) B M ((degP f v).toNat + 1) s [] f)
  (hA : A < 24) (hB : B ≤ 80000) (hT : 1 ≤ T) (hTb : T ≤ 1000000) (hTM : 2 * T * M ≤ 1000000000000) (hv : 1 ≤ v ∧ v ≤ 200) (hd : 1 ≤ degP g v) :
  Calls Tryz.prog 95 #[mval o, vf, vg, .int .i64 v, .bool keep] W (zvo W o (divD o keep s f g v)) := by
 have hMM : M ≤ 2 * T * M := Nat.le_mul_of_pos_left M (by omega)
 have ff := hF.now.2
 have hfr := z0u ff.can.may v
 have hgr := z0u fg.can.may v
 have fh := fg.coef v (degP g v)
 have CB := zpc (vm := mval o) (keep := keep) ⟨_, rfl⟩ hf.pv hg.pv ff fg (by omega) (by omega) (by omega) (by omega) hv hd
 obtain ⟨R, hR⟩ : ∃ R, R = divD o keep s f g v := ⟨_, rfl⟩
 rw [← hR]
 have HR0 := hid hR
 obtain ⟨K, hK⟩ : ∃ K, K = (degP f v).toNat + 1 := ⟨_, rfl⟩
 have HK := hid hK
 have HFR := hid hF
 have HM := hid hM
 have HG := hid hg
 have HBM := hid (fun b hb => hM.block (b := b) hb)
 have HFG := hid fg
 have HFH := hid (show Fit A T (z18 g v) from fh)
 have HV := hid hv
 have HDD := hid hd
 have HFF := hid (And.intro hfr.1 hfr.2)
 have HBD := hid (And.intro hA (And.intro hB (And.intro hT hTM)))
 obtain ⟨vm, hvm⟩ : ∃ x, x = mval o := ⟨_, rfl⟩
 rw [← hvm] at CB ⊢
 have HVM := hid hvm
 obtain ⟨af, cf, rfl⟩ := hf.form
 obtain ⟨ag, cg, rfl⟩ := hg.form
 obtain ⟨nf, hnf⟩ : ∃ n, n = (ofP f).length := ⟨_, rfl⟩
 obtain ⟨ng, hng⟩ : ∃ n, n = (ofP g).length := ⟨_, rfl⟩
 rw [← hnf, ← hng] at CB ⊢
 rw [← hng] at HG
 obtain ⟨d, hd2⟩ : ∃ d, d = degP g v := ⟨_, rfl⟩
 have HD2 := hid hd2
 rw [← hd2] at CB hgr
 have HCB := hid CB
 obtain ⟨hv1, hv2⟩ := hv
 obtain ⟨hgr1, hgr2⟩ := hgr
 clear CB hM hf hg fg hF ff fh hR hK hfr hvm hnf hng hd2 hA hB hT hTb hTM hMM hd
 go_enter Tryz.func95, Tryz.ntmps95
 go_wp2_with fail
 with_reducible refine HCB.out.mono ?_
 rintro e w1 ⟨bd, vh, vr0, rfl, hb1, hd1, hh1, hr1, hx1⟩
 have HX1 := hid hx1
 have HB1 := hid hb1
 have HOB : Hid (∀ b, o = some b → b ≠ bd) := hid (fun b hb => by have := HBM.out b hb; omega)
 have HVH := hid hh1
 have HVR := hid hr1
 have HDV := hid hd1
 have HNEW : Hid (∀ k, (New W w1 k ∧ k ≠ bd) → NC o bd w1 k) := hid (fun k hk => ⟨hk.1.2, fun e => by have := HBM.out k e.symm; have := hk.1.1; omega, hk.2⟩)
 have HVG : Hid (PC o bd w1 (.slice ag ng cg) g) := hid (HG.out.to (zi0 (z07 hx1 o)) (fun k h => ⟨Nat.lt_of_lt_of_le h.1 hx1.size, h.2, by have := h.1; omega⟩))
 clear hx1 hb1 hd1 hh1 hr1
 go_wp2
 go_loopw [13] (fun e wr => Hid (Gd o bd w1 wr) ∧ ((∃ (k : Nat) (s' : MSt) (q r : PZ) (n : Nat) (vq vr : Value), e = .int .i64 0 ∧ Hid (runD o keep g (z18 g v) v (degP g v) k s' q r n = R) ∧ Hid (degP r v < (k : Int)) ∧ Hid (z3g o keep g (z18 g v) v (degP g v) B M k s' q r) ∧ Hid (DivAt wr bd vm v d (.slice ag ng cg) vh vq vr (n : Nat) keep) ∧ Hid (PN W.heap.size o bd wr vq q) ∧ Hid (PN W.heap.size o bd wr vr r) ∧ Hid (MV wr o s') ∧ Hid (n + k = K)) ∨
   (∃ c : Int, e = .int .i64 c ∧ c ≠ 0 ∧ Hid (R.e = c) ∧ Hid (MV wr o R.s)))) (fun e wr => meas K e (zej wr ⟨bd, 7, none⟩))
 case atStart => exact ⟨Gd.refl _ _ _, .inl ⟨K, s, [], f, 0, _, _, rfl, by show _ = _; rw [HR0.out, HK.out]; rfl, by show _ < _; have := HFF.out; rw [HK.out]; omega, by rw [HK.out]; exact HFR, HDV, z05.nilv _ _ _ _ (by decide), HVR.out.to (Kept.refl _ _) (fun k hk => ⟨hk.1.1, HNEW.out k hk⟩), HM.out.ext HX1.out, Nat.zero_add _⟩⟩
 case round =>
  obtain ⟨HGD, hcase⟩ := hrel
  rcases hcase with ⟨k, s', q, r, n, vq, vr, rfl, HR, HDG, HF, HD, HQ, HRR, HMV, HNK⟩ | ⟨c, rfl, hc0, HE, HMV⟩
  ·have HFN := hid HF.out.now
   have hdr := z0u HFN.out.2.can.may v
   obtain ⟨k1, hk1⟩ : ∃ k1, k = k1 + 1 := ⟨k - 1, by have := HDG.out; omega⟩
   subst hk1
   have e2 := HD.out.c2
   have e6 := HD.out.c6
   have HSZ := hid HD.out.lt
   by_cases hr0 : r = []
   ·have hr0' := hr0
    subst hr0
    have HRE : Hid (R = ⟨0, q, [], n, s'⟩) := hid (by rw [← HR.out, z2c, if_pos (.inl rfl)])
    obtain ⟨ar, cr, hvr⟩ := HRR.out.form
    have hvr2 : vr = .slice ar 0 cr := hvr
    clear hvr hr0' hdr
    subst hvr2
    have L2 := fun Y : Later wr => Y.h.cell e2
    have L6 := fun Y : Later wr => Y.h.cell e6
    go_wp2
    refine z03 (by kernel_rfl) (by kernel_rfl) ?_
    repeat (go_big_quiet_step (fail))
    refine wpQuiet_nil ?_
    intro W2 hW2
    have HW2 := hid hW2
    clear L2 L6 hW2 e2 e6
    go_wp2
    all_goals
     go_ret2
     rw [HRE.out]
     refine ⟨bd, rfl, HMV.out.ext HW2.out, (((z23 HX1.out).trans HGD.out).trans (z23 HW2.out)).gb HB1.out, fun _ => ?_⟩
     have D2 := HD.out.ext HW2.out
     exact ⟨_, _, D2.c5, D2.c6, D2.c7, (PN.on HQ.out (z23 HW2.out)).pmn, (PN.on HRR.out (z23 HW2.out)).pmn⟩
   ·have CD := fun (Y : Later wr) => zap (z05.on (PN.pc HRR.out).pv Y.h) HFN.out.2 (by have := HBD.out.2.1; omega) (x := v) (by unfold z12; omega)
    have hnr : 0 < (ofP r).length := by rw [zhw]; exact List.length_pos_iff.2 hr0
    obtain ⟨ar, cr, rfl⟩ := HRR.out.form
    obtain ⟨nr, hnr2⟩ : ∃ n, n = (ofP r).length := ⟨_, rfl⟩
    rw [← hnr2] at CD hnr HD HRR e6
    obtain ⟨dr, hdr2⟩ : ∃ d, d = degP r v := ⟨_, rfl⟩
    rw [← hdr2] at CD hdr
    have HDR := hid hdr2
    have HCD := hid CD
    have HR0' := hid hr0
    obtain ⟨hdr1, hdr3⟩ := hdr
    clear hr0 hnr2 hdr2 CD
    have L2 := fun Y : Later wr => Y.h.cell e2
    have L6 := fun Y : Later wr => Y.h.cell e6
    by_cases hlt : dr < d
    ·have q1 : decide (d ≤ dr) = false := decide_eq_false (by omega)
     have HRE : Hid (R = ⟨0, q, r, n, s'⟩) := hid (by rw [← HR.out, z2c, if_pos (.inr (by rw [← HDR.out, ← HD2.out]; exact hlt))])
     clear hlt
     go_wp2
     refine z03 (by kernel_rfl) (by kernel_rfl) ?_
     repeat (go_big_quiet_step (first | (go_at_call 70; exact Later.done (HCD.out _))))
     refine wpQuiet_nil ?_
     intro W2 hW2
     have HW2 := hid hW2
     clear L2 L6 hW2 e2 e6
     go_wp2
     all_goals
      go_ret2
      rw [HRE.out]
      refine ⟨bd, rfl, HMV.out.ext HW2.out, (((z23 HX1.out).trans HGD.out).trans (z23 HW2.out)).gb HB1.out, fun _ => ?_⟩
      have D2 := HD.out.ext HW2.out
      exact ⟨_, _, D2.c5, D2.c6, D2.c7, (PN.on HQ.out (z23 HW2.out)).pmn, (PN.on HRR.out (z23 HW2.out)).pmn⟩
    ·have hle : d ≤ dr := by omega
     have q1 : decide (d ≤ dr) = true := decide_eq_true hle
     have HLE := hid hle
     have HNB : Hid (n ≤ 1000000) := hid (by have h1 := HNK.out; have h2 := HK.out; have h3 := HFF.out; omega)
     have HCS := hid (fun (Y : World) (hY : Ext wr Y) => zse (o := o) (s := s') (by rw [← HVM.out]; exact HD.out.ext hY) (HMV.out.ext hY) HOB.out (PC.on HVG.out (HGD.out.trans (z23 hY))) (PC.on (HVH.out.to (Kept.refl _ _) HNEW.out) (HGD.out.trans (z23 hY))) (PN.pc (PN.on HQ.out (z23 hY))) (PN.pc (PN.on HRR.out (z23 hY))) HFG.out HFH.out HFN.out.1 HFN.out.2 HBD.out.1 HBD.out.2.1 HBD.out.2.2.1 HBD.out.2.2.2 HV.out (by omega) (by rw [← HDR.out]; exact HLE.out) ⟨by omega, by have := HNB.out; omega⟩)
     clear hlt hle
     go_wp2
     refine z03 (by kernel_rfl) (by kernel_rfl) ?_
     repeat (go_big_quiet_step (first | (go_at_call 70; exact Later.done (HCD.out _))))
     refine wpQuiet_nil ?_
     intro W2 hW2
     have HW2 := hid hW2
     have HCS2 := hid (HCS.out W2 hW2)
     clear L2 L6 hW2 e2 e6
     go_wp2_with fail
     with_reducible refine HCS2.out.mono ?_
     rintro e w3 ⟨rfl, hm3, hg3, hy3⟩
     have HM3 := hid hm3
     have HG3 := hid ((HGD.out.trans (z23 HW2.out)).trans hg3)
     have HY3 := hid hy3
     clear hm3 hg3 hy3
     have hcn : zej wr ⟨bd, 7, none⟩ = n := by rw [zdf HD.out.c7]; omega
     have HRS : Hid (runD o keep g (z18 g v) v (degP g v) (k1 + 1) s' q r n = match (z2w o keep g (z18 g v) v d s' q r).2.2 with
      | none => ⟨(z2w o keep g (z18 g v) v d s' q r).1, [], [], 0, (z2w o keep g (z18 g v) v d s' q r).2.1⟩
      | some x => runD o keep g (z18 g v) v (degP g v) k1 (z2w o keep g (z18 g v) v d s' q r).2.1 x.1 x.2 (n + 1)) := hid (by
       rw [z2c, if_neg (by
        rintro (h | h)
        ·exact HR0'.out h
        ·rw [← HDR.out, ← HD2.out] at h; have := HLE.out; omega), HD2.out]
       first | done | rfl)
     cases hx : (z2w o keep g (z18 g v) v d s' q r).2.2 with
     | none =>
      have hc := zlp hx
      have HC := hid hc
      have HRE : Hid (R.e = (z2w o keep g (z18 g v) v d s' q r).1 ∧ R.s = (z2w o keep g (z18 g v) v d s' q r).2.1) := hid (by
       have h := HRS.out
       rw [hx, HR.out] at h
       rw [h]
       exact ⟨rfl, rfl⟩)
      generalize z2w o keep g (z18 g v) v d s' q r = X at *
      obtain ⟨c, s2, y⟩ := X
      simp only at hc HC HRE HM3
      clear hx
      go_wp2
      go_roundw
      case rel => exact ⟨HG3, .inr ⟨c, rfl, hc, HRE.out.1, by show MV _ _ _; rw [HRE.out.2]; exact HM3.out⟩⟩
      case measure =>
       rw [zsg hc, zek, hcn]
       have := HNK.out
       omega
     | some x =>
      have hso := zlo hx
      have HSO := hid hso
      obtain ⟨vq3, vr3, d3, hq3, hr3⟩ := HY3.out x hx
      have HDN := hid d3
      have hsz : W.heap.size ≤ W2.heap.size := Nat.le_trans HX1.out.size (Nat.le_trans HGD.out.size HW2.out.size)
      have HQ3 := hid (PN.low hq3 hsz)
      have HR3 := hid (PN.low hr3 hsz)
      have HSD := hid (z90 (keep := keep) (q := q) (x := x) HFG.out.can HFN.out.2.can HR0'.out HV.out (by rw [← HD2.out]; have := HDD.out; rw [← HD2.out] at this; exact this) (by rw [← HD2.out, ← HDR.out]; exact HLE.out) (by rw [← HD2.out]; exact hso.2.2.1))
      have HFN2 := hid (HF.out.2.2 HR0'.out (by rw [← HD2.out, ← HDR.out]; exact HLE.out) hso.2.1 x (by rw [← HD2.out]; exact hso.2.2.1) hso.2.2.2.1 hso.2.2.2.2.1)
      have HRE : Hid (runD o keep g (z18 g v) v (degP g v) k1 (z2w o keep g (z18 g v) v d s' q r).2.1 x.1 x.2 (n + 1) = R) := hid (by
       have h := HRS.out
       rw [hx, HR.out] at h
       exact h.symm)
      rw [hso.2.2.2.2.2] at HRE HM3
      rw [hso.1]
      clear hso d3 hq3 hr3 HRS HY3 hsz
      go_wp2
      go_roundw
      case rel => exact ⟨HG3, .inl ⟨k1, (z15 o s').2, x.1, x.2, n + 1, vq3, vr3, rfl, HRE, by show _ < _; have h1 := HSD.out.2; have h2 := HDG.out; omega, HFN2, by rw [HVM.out]; exact HDN, HQ3, HR3, HM3, by show _ = _; have := HNK.out; omega⟩⟩
      case measure =>
       rw [zek, zek, hcn, zdf HDN.out.c7]
       have := HNK.out
       omega
  ·have q0 : (c == 0) = false := by rw [beq_eq_false_iff_ne]; exact hc0
   have HC := hid hc0
   clear hc0
   go_wp2
   refine z03 (by kernel_rfl) (by kernel_rfl) ?_
   repeat (go_big_quiet_step (fail))
   refine wpQuiet_nil ?_
   intro W2 hW2
   have HW2 := hid hW2
   clear hW2
   go_wp2
   all_goals
    go_ret2
    refine ⟨bd, by rw [HE.out]; rfl, HMV.out.ext HW2.out, (((z23 HX1.out).trans HGD.out).trans (z23 HW2.out)).gb HB1.out, fun h => absurd (HE.out.symm.trans h) HC.out⟩
end
section
open Go.RowKit
def zdg (W : World) (o : Option Nat) (R : DRes) : Ending → World → Prop := fun e W' => ∃ vq vr, e = .returned (.tuple #[vq, vr, .int .i64 (R.n : Nat), .int .i64 R.e]) ∧ MV W' o R.s ∧ W.grownBy W' o ∧ PMN W.heap.size o W' vq R.q ∧ PMN W.heap.size o W' vr R.r
def zsh (W : World) (o : Option Nat) (R : DRes) : Ending → World → Prop := fun e W' => ∃ vr, e = .returned (.tuple #[vr, .int .i64 (R.n : Nat), .int .i64 R.e]) ∧ MV W' o R.s ∧ W.grownBy W' o ∧ PMN W.heap.size o W' vr R.r
section
variable {W : World} {o : Option Nat} {s : MSt} {vf vg : Value} {v : Int} {f g : PZ} {A B T M : Nat}
theorem zsi (hM : MV W o s) (hf : PM o W vf f) (hg : PM o W vg g) (fg : Fit A T g) (hF : z3g o true g (z18 g v) v (degP g v) B M ((degP f v).toNat + 1) s [] f)
  (hA : A < 24) (hB : B ≤ 80000) (hT : 1 ≤ T) (hTb : T ≤ 1000000) (hTM : 2 * T * M ≤ 1000000000000) (hv : 1 ≤ v ∧ v ≤ 200) (hd : 1 ≤ degP g v) :
  Calls Tryz.prog 48 #[mval o, vf, vg, .int .i64 v] W (zdg W o (divD o true s f g v)) := by
 have C := hid (zpd (keep := true) hM hf hg fg hF hA hB hT hTb hTM hv hd)
 have HER := hid (zpa (o := o) (keep := true) (g := g) (v := v) (h := z18 g v) (d := degP g v) ((degP f v).toNat + 1) s [] f 0)
 obtain ⟨R, hR⟩ : ∃ R, R = divD o true s f g v := ⟨_, rfl⟩
 rw [show runD o true g (z18 g v) v (degP g v) ((degP f v).toNat + 1) s [] f 0 = R from hR.symm] at HER
 rw [← hR] at C ⊢
 obtain ⟨vm, hvm⟩ : ∃ x, x = mval o := ⟨_, rfl⟩
 rw [← hvm] at C ⊢
 obtain ⟨af, cf, rfl⟩ := hf.form
 obtain ⟨ag, cg, rfl⟩ := hg.form
 obtain ⟨nf, hnf⟩ : ∃ n, n = (ofP f).length := ⟨_, rfl⟩
 obtain ⟨ng, hng⟩ : ∃ n, n = (ofP g).length := ⟨_, rfl⟩
 rw [← hnf, ← hng] at C ⊢
 clear hM hf hg fg hF hA hB hT hTb hTM hv hd hR hvm hnf hng
 obtain ⟨re, rq, rr, rn, rs⟩ := R
 simp only at HER
 by_cases h0 : re = 0
 ·subst h0
  clear HER
  go_enter Tryz.func48, Tryz.ntmps48
  go_wp2_with fail
  with_reducible refine C.out.mono ?_
  rintro e w1 ⟨bd, rfl, hm1, hg1, hy1⟩
  obtain ⟨vq, vr, e5, e6, e7, hq, hr⟩ := hy1 rfl
  have HM1 := hid hm1
  have HG1 := hid hg1
  have HQ := hid hq
  have HR := hid hr
  have L5 := fun Y : Later w1 => Y.h.cell e5
  have L6 := fun Y : Later w1 => Y.h.cell e6
  have L7 := fun Y : Later w1 => Y.h.cell e7
  clear hm1 hg1 hq hr hy1
  go_wp2
  refine z03 (by kernel_rfl) (by kernel_rfl) ?_
  repeat (go_big_quiet_step (fail))
  refine wpQuiet_nil ?_
  intro W2 hW2
  have HW2 := hid hW2
  clear L5 L6 L7 hW2 e5 e6 e7
  go_wp2
  all_goals
   refine bodyPost_ret (v := .tuple #[vq, vr, .int .i64 (rn : Nat), .int .i64 0]) (by simp [results, Tryz.results48, go_sem]) rfl ?_
   exact ⟨_, _, rfl, HM1.out.ext HW2.out, z06 HG1.out (z07 HW2.out o), PMN.ext HQ.out HW2.out, PMN.ext HR.out HW2.out⟩
 ·have q0 : (re != 0) = true := by rw [bne_iff_ne]; exact h0
  have HE2 : Hid (rq = [] ∧ rr = [] ∧ rn = 0) := hid (by rcases HER.out with h | h; exact absurd h h0; exact h)
  clear HER h0
  go_enter Tryz.func48, Tryz.ntmps48
  go_wp2_with fail
  with_reducible refine C.out.mono ?_
  rintro e w1 ⟨bd, rfl, hm1, hg1, -⟩
  have HM1 := hid hm1
  have HG1 := hid hg1
  clear hm1 hg1
  go_wp2
  all_goals
   refine bodyPost_ret (v := .tuple #[.slice none 0 0, .slice none 0 0, .int .i64 0, .int .i64 re]) (by simp [results, Tryz.results48, go_sem]) rfl ?_
   obtain ⟨rfl, rfl, rfl⟩ := HE2.out
   exact ⟨_, _, rfl, HM1.out, HG1.out, z05.nilv _ _ _ _ (by decide), z05.nilv _ _ _ _ (by decide)⟩
theorem zx7 (hM : MV W o s) (hf : PM o W vf f) (hg : PM o W vg g) (fg : Fit A T g) (hF : z3g o false g (z18 g v) v (degP g v) B M ((degP f v).toNat + 1) s [] f)
  (hA : A < 24) (hB : B ≤ 80000) (hT : 1 ≤ T) (hTb : T ≤ 1000000) (hTM : 2 * T * M ≤ 1000000000000) (hv : 1 ≤ v ∧ v ≤ 200) (hd : 1 ≤ degP g v) :
  Calls Tryz.prog 47 #[mval o, vf, vg, .int .i64 v] W (zsh W o (divD o false s f g v)) := by
 have C := hid (zpd (keep := false) hM hf hg fg hF hA hB hT hTb hTM hv hd)
 have HER := hid (zpa (o := o) (keep := false) (g := g) (v := v) (h := z18 g v) (d := degP g v) ((degP f v).toNat + 1) s [] f 0)
 obtain ⟨R, hR⟩ : ∃ R, R = divD o false s f g v := ⟨_, rfl⟩
 rw [show runD o false g (z18 g v) v (degP g v) ((degP f v).toNat + 1) s [] f 0 = R from hR.symm] at HER
 rw [← hR] at C ⊢
 obtain ⟨vm, hvm⟩ : ∃ x, x = mval o := ⟨_, rfl⟩
 rw [← hvm] at C ⊢
 obtain ⟨af, cf, rfl⟩ := hf.form
 obtain ⟨ag, cg, rfl⟩ := hg.form
 obtain ⟨nf, hnf⟩ : ∃ n, n = (ofP f).length := ⟨_, rfl⟩
 obtain ⟨ng, hng⟩ : ∃ n, n = (ofP g).length := ⟨_, rfl⟩
 rw [← hnf, ← hng] at C ⊢
 clear hM hf hg fg hF hA hB hT hTb hTM hv hd hR hvm hnf hng
 obtain ⟨re, rq, rr, rn, rs⟩ := R
 simp only at HER
 by_cases h0 : re = 0
 ·subst h0
  clear HER
  go_enter Tryz.func47, Tryz.ntmps47
  go_wp2_with fail
  with_reducible refine C.out.mono ?_
  rintro e w1 ⟨bd, rfl, hm1, hg1, hy1⟩
  obtain ⟨vq, vr, e5, e6, e7, hq, hr⟩ := hy1 rfl
  have HM1 := hid hm1
  have HG1 := hid hg1
  have HR := hid hr
  have L6 := fun Y : Later w1 => Y.h.cell e6
  have L7 := fun Y : Later w1 => Y.h.cell e7
  clear hm1 hg1 hq hr hy1
  go_wp2
  refine z03 (by kernel_rfl) (by kernel_rfl) ?_
  repeat (go_big_quiet_step (fail))
  refine wpQuiet_nil ?_
  intro W2 hW2
  have HW2 := hid hW2
  clear L6 L7 hW2 e5 e6 e7
  go_wp2
  all_goals
   refine bodyPost_ret (v := .tuple #[vr, .int .i64 (rn : Nat), .int .i64 0]) (by simp [results, Tryz.results47, go_sem]) rfl ?_
   exact ⟨_, rfl, HM1.out.ext HW2.out, z06 HG1.out (z07 HW2.out o), PMN.ext HR.out HW2.out⟩
 ·have q0 : (re != 0) = true := by rw [bne_iff_ne]; exact h0
  have HE2 : Hid (rq = [] ∧ rr = [] ∧ rn = 0) := hid (by rcases HER.out with h | h; exact absurd h h0; exact h)
  clear HER h0
  go_enter Tryz.func47, Tryz.ntmps47
  go_wp2_with fail
  with_reducible refine C.out.mono ?_
  rintro e w1 ⟨bd, rfl, hm1, hg1, -⟩
  have HM1 := hid hm1
  have HG1 := hid hg1
  clear hm1 hg1
  go_wp2
  all_goals
   refine bodyPost_ret (v := .tuple #[.slice none 0 0, .int .i64 0, .int .i64 re]) (by simp [results, Tryz.results47, go_sem]) rfl ?_
   obtain ⟨-, rfl, rfl⟩ := HE2.out
   exact ⟨_, rfl, HM1.out, HG1.out, z05.nilv _ _ _ _ (by decide)⟩
end
section
variable {W : World} {vm vf vg : Value} {v : Int} {fs gs : List RTerm}
end
end
section
open Go.RowKit
theorem zvp {S : Nat → Prop} (va vb : Value) (xs ys : List Nat) (w : World) (ha : U32s S w va xs) (hb : U32s S w vb ys) (hS : ∀ k, S k → k < w.heap.size) :
  Calls Tryz.prog 104 #[va, vb] w fun e w' => e = .returned (.bool (decide (xs = ys))) ∧ Ext w w' := by
 have HA := hid ha
 have HB := hid hb
 have hla := ha.len_le
 have hlb := hb.len_le
 obtain ⟨aa, ca, rfl⟩ := ha.form
 obtain ⟨ab, cb, rfl⟩ := hb.form
 obtain ⟨na, hna⟩ : ∃ n, n = xs.length := ⟨_, rfl⟩
 obtain ⟨nb, hnb⟩ : ∃ n, n = ys.length := ⟨_, rfl⟩
 rw [← hna] at HA hla ⊢
 rw [← hnb] at HB hlb ⊢
 have HNA := hid hna
 have HNB := hid hnb
 clear ha hb hna hnb
 by_cases hne : na = nb
 ·subst hne
  go_enter Tryz.func104, Tryz.ntmps104
  go_wp2
  go_loopw [5] (fun i wr => ∃ k : Nat, k ≤ na ∧ i = .int .i64 k ∧ Ext w wr ∧ Hid (xs.take k = ys.take k)) (fun i _ => na - (intOf i).toNat)
  case atStart => exact ⟨0, Nat.zero_le _, rfl, Ext.refl _, rfl⟩
  case round =>
   obtain ⟨k, hk, rfl, hx, HE⟩ := hrel
   have HX := hid hx
   by_cases hlt : k < na
   ·obtain ⟨x, hxk⟩ := z00 (l := xs) (j := k) (by rw [← HNA.out]; exact hlt)
    obtain ⟨y, hyk⟩ := z00 (l := ys) (j := k) (by rw [← HNB.out]; exact hlt)
    obtain ⟨b1, o1, rfl, -, hc1, hm1, hz1, h1⟩ := (HA.out.ext hx hS).cellAt hxk
    obtain ⟨b2, o2, rfl, -, hc2, hm2, hz2, h2⟩ := (HB.out.ext hx hS).cellAt hyk
    have HXK := hid hxk
    have HYK := hid hyk
    clear hxk hyk hx
    by_cases he : x = y
    ·have q1 : ((x : Int) != (y : Int)) = false := by rw [he]; simp
     have H0 := hid he
     clear he
     go_wp2
     go_quiet (fail)
     go_wp2
     go_roundw
     case rel => exact ⟨k + 1, by omega, by go_num, HX.out.drewN _, z37 HE.out HXK.out (by rw [H0.out]; exact HYK.out)⟩
     case measure => simp only [intOf]; omega
    ·have q1 : ((x : Int) != (y : Int)) = true := by rw [bne_iff_ne]; omega
     have HF : Hid (xs ≠ ys) := hid (z66 HXK.out HYK.out he)
     clear he
     go_wp2
     go_quiet (fail)
     go_wp2
     go_ret
     exact ⟨by rw [decide_eq_false HF.out]; rfl, HX.out.drewN _⟩
   ·obtain rfl : k = na := by omega
    have HF : Hid (xs = ys) := hid (by have := HE.out; rwa [List.take_of_length_le (by rw [← HNA.out]; exact Nat.le_refl _), List.take_of_length_le (by rw [← HNB.out]; exact Nat.le_refl _)] at this)
    clear hx
    go_wp2
    go_ret
    exact ⟨by rw [decide_eq_true HF.out]; rfl, HX.out⟩
 ·have hb : ((na : Int) != (nb : Int)) = true := by rw [bne_iff_ne]; omega
  have HF : Hid (xs ≠ ys) := hid (fun e => hne (by rw [HNA.out, HNB.out, e]))
  clear hne
  go_enter Tryz.func104, Tryz.ntmps104
  go_wp2
  go_ret
  exact ⟨by rw [decide_eq_false HF.out]; rfl, Ext.refl _⟩
theorem zvq {S : Nat → Prop} (va vb : Value) (xs ys : Mono) (w : World) (ha : Pows S w va xs) (hb : Pows S w vb ys) (hS : ∀ k, S k → k < w.heap.size) :
  Calls Tryz.prog 60 #[va, vb] w fun e w' => e = .returned (.bool (decide (xs = ys))) ∧ Ext w w' := by
 have HA := hid ha
 have HB := hid hb
 have hla := ha.len_le
 have hlb := hb.len_le
 obtain ⟨aa, ca, rfl⟩ := ha.form
 obtain ⟨ab, cb, rfl⟩ := hb.form
 obtain ⟨na, hna⟩ : ∃ n, n = xs.length := ⟨_, rfl⟩
 obtain ⟨nb, hnb⟩ : ∃ n, n = ys.length := ⟨_, rfl⟩
 rw [← hna] at HA hla ⊢
 rw [← hnb] at HB hlb ⊢
 have HNA := hid hna
 have HNB := hid hnb
 clear ha hb hna hnb
 by_cases hne : na = nb
 ·subst hne
  go_enter Tryz.func60, Tryz.ntmps60
  go_wp2
  go_loopw [5] (fun i wr => ∃ k : Nat, k ≤ na ∧ i = .int .i64 k ∧ Ext w wr ∧ Hid (xs.take k = ys.take k)) (fun i _ => na - (intOf i).toNat)
  case atStart => exact ⟨0, Nat.zero_le _, rfl, Ext.refl _, rfl⟩
  case round =>
   obtain ⟨k, hk, rfl, hx, HE⟩ := hrel
   have HX := hid hx
   by_cases hlt : k < na
   ·obtain ⟨x, hxk⟩ := z00 (l := xs) (j := k) (by rw [← HNA.out]; exact hlt)
    obtain ⟨y, hyk⟩ := z00 (l := ys) (j := k) (by rw [← HNB.out]; exact hlt)
    obtain ⟨b1, o1, c1', hv1, hc1, hm1, ⟨⟨hz1, hz2⟩, hz3, hz4⟩, h1, h1'⟩ := (HA.out.ext hx hS).at hxk
    obtain ⟨rfl, -, rfl⟩ : aa = some ⟨b1, o1, none⟩ ∧ na = xs.length ∧ ca = c1' := by simpa using hv1
    obtain ⟨b2, o2, c2', hv2, hc2, hm2, ⟨⟨hy1, hy2⟩, hy3, hy4⟩, h2, h2'⟩ := (HB.out.ext hx hS).at hyk
    obtain ⟨rfl, -, rfl⟩ : ab = some ⟨b2, o2, none⟩ ∧ na = ys.length ∧ cb = c2' := by simpa using hv2
    clear hv1 hv2
    rw [← HNA.out] at hc1
    rw [← HNB.out] at hc2
    have HXK := hid hxk
    have HYK := hid hyk
    clear hxk hyk hx
    by_cases he : x = y
    ·have H0 := hid he
     obtain ⟨x1, x2⟩ := x
     obtain ⟨y1, y2⟩ := y
     obtain ⟨rfl, rfl⟩ : x1 = y1 ∧ x2 = y2 := by simpa using he
     simp only at h1 h1' h2 h2' hz1 hz2 hz3 hz4 hy1 hy2 hy3 hy4
     clear he
     go_wp2
     go_quiet (fail)
     go_wp2
     go_roundw
     case rel => exact ⟨k + 1, by omega, by go_num, HX.out.drewN _, z37 HE.out HXK.out HYK.out⟩
     case measure => simp only [intOf]; omega
    ·have HF : Hid (xs ≠ ys) := hid (z66 HXK.out HYK.out he)
     obtain ⟨x1, x2⟩ := x
     obtain ⟨y1, y2⟩ := y
     simp only at h1 h1' h2 h2' hz1 hz2 hz3 hz4 hy1 hy2 hy3 hy4
     have he' : x1 ≠ y1 ∨ (x1 = y1 ∧ x2 ≠ y2) := by
      by_cases h : x1 = y1
      ·exact .inr ⟨h, fun h' => he (by rw [h, h'])⟩
      ·exact .inl h
     clear he
     rcases he' with he | ⟨rfl, he⟩
     all_goals
      go_wp2
      go_quiet (fail)
      go_wp2
      go_ret
      exact ⟨by rw [decide_eq_false HF.out]; rfl, HX.out.drewN _⟩
   ·obtain rfl : k = na := by omega
    have HF : Hid (xs = ys) := hid (by have := HE.out; rwa [List.take_of_length_le (by rw [← HNA.out]; exact Nat.le_refl _), List.take_of_length_le (by rw [← HNB.out]; exact Nat.le_refl _)] at this)
    clear hx
    go_wp2
    go_ret
    exact ⟨by rw [decide_eq_true HF.out]; rfl, HX.out⟩
 ·have hb : ((na : Int) != (nb : Int)) = true := by rw [bne_iff_ne]; omega
  have HF : Hid (xs ≠ ys) := hid (fun e => hne (by rw [HNA.out, HNB.out, e]))
  clear hne
  go_enter Tryz.func60, Tryz.ntmps60
  go_wp2
  go_ret
  exact ⟨by rw [decide_eq_false HF.out]; rfl, Ext.refl _⟩
theorem zvr {S : Nat → Prop} (v1 v2 : Value) (sn tn : Bool) (sm tm : List Nat) (w : World) (h1 : U32s S w v1 sm) (h2 : U32s S w v2 tm) (hS : ∀ k, S k → k < w.heap.size) :
  Calls Tryz.prog 59 #[.agg #[.bool sn, v1], .agg #[.bool tn, v2]] w fun e w' => e = .returned (.bool (decide (sn = tn) && decide (sm = tm))) ∧ Ext w w' := by
 have CU := fun (W : World) (hW : Ext w W) => zvp _ _ sm tm W (h1.ext hW hS) (h2.ext hW hS) (z08 hS hW)
 obtain ⟨a1, c1, rfl⟩ := h1.form
 obtain ⟨a2, c2, rfl⟩ := h2.form
 have hx : Ext w ((w.alloc (.cells #[.bool sn, .slice a1 sm.length c1] 72)).alloc (.cells #[.bool tn, .slice a2 tm.length c2] 72)) := Ext.alloc (Ext.alloc (Ext.refl w) _) _
 have HX := hid hx
 clear h1 h2 hx
 by_cases hs : sn = tn
 ·subst hs
  cases hm : decide (sm = tm) with
  | false =>
   simp only [hm] at CU
   have HCU := hid CU
   clear CU hm
   go_enter Tryz.func59, Tryz.ntmps59
   go_wp2_with fail
   with_reducible refine (HCU.out _ HX.out).mono ?_
   rintro e w1 ⟨rfl, hx1⟩
   have HX1 := hid (HX.out.trans hx1)
   clear hx1
   go_wp2
   all_goals
    go_ret
    exact ⟨by simp, HX1.out⟩
  | true =>
   simp only [hm] at CU
   have HCU := hid CU
   clear CU hm
   go_enter Tryz.func59, Tryz.ntmps59
   go_wp2_with fail
   with_reducible refine (HCU.out _ HX.out).mono ?_
   rintro e w1 ⟨rfl, hx1⟩
   have HX1 := hid (HX.out.trans hx1)
   clear hx1
   go_wp2
   all_goals
    go_ret
    exact ⟨by simp, HX1.out⟩
 ·have hb : (sn == tn) = false := by rw [beq_eq_false_iff_ne]; exact hs
  have HF := hid (decide_eq_false hs)
  clear hs CU
  go_enter Tryz.func59, Tryz.ntmps59
  go_wp2
  all_goals
   go_ret
   exact ⟨by rw [HF.out]; simp, HX.out⟩
theorem z7n {S : Nat → Prop} (va vb : Value) (xs ys : List RTerm) (w : World) (ha : z05 S w va xs) (hb : z05 S w vb ys) (hS : ∀ k, S k → k < w.heap.size) :
  Calls Tryz.prog 25 #[va, vb] w fun e w' => e = .returned (.bool (decide (xs = ys))) ∧ Ext w w' := by
 have HA := hid ha
 have HB := hid hb
 have hla := ha.len_le
 have hlb := hb.len_le
 obtain ⟨aa, ca, rfl⟩ := ha.form
 obtain ⟨ab, cb, rfl⟩ := hb.form
 obtain ⟨na, hna⟩ : ∃ n, n = xs.length := ⟨_, rfl⟩
 obtain ⟨nb, hnb⟩ : ∃ n, n = ys.length := ⟨_, rfl⟩
 rw [← hna] at HA hla ⊢
 rw [← hnb] at HB hlb ⊢
 have HNA := hid hna
 have HNB := hid hnb
 clear ha hb hna hnb
 by_cases hne : na = nb
 ·subst hne
  go_enter Tryz.func25, Tryz.ntmps25
  go_wp2
  go_loopw [5] (fun i wr => ∃ k : Nat, k ≤ na ∧ i = .int .i64 k ∧ Ext w wr ∧ Hid (xs.take k = ys.take k)) (fun i _ => na - (intOf i).toNat)
  case atStart => exact ⟨0, Nat.zero_le _, rfl, Ext.refl _, rfl⟩
  case round =>
   obtain ⟨k, hk, rfl, hx, HE⟩ := hrel
   have HX := hid hx
   by_cases hlt : k < na
   ·obtain ⟨x, hxk⟩ := z00 (l := xs) (j := k) (by rw [← HNA.out]; exact hlt)
    obtain ⟨y, hyk⟩ := z00 (l := ys) (j := k) (by rw [← HNB.out]; exact hlt)
    obtain ⟨b1, o1, v1, v2, rfl, -, hc1, hm1, hz1, h1, h2, h3, h4, h5⟩ := (HA.out.ext hx hS).cellAt hxk
    obtain ⟨b2, o2, v3, v4, rfl, -, hc2, hm2, hz2, g1, g2, g3, g4, g5⟩ := (HB.out.ext hx hS).cellAt hyk
    have HXK := hid hxk
    have HYK := hid hyk
    obtain ⟨⟨xn, xm⟩, xo⟩ := x
    obtain ⟨⟨yn, ym⟩, yo⟩ := y
    simp only at h1 h2 h3 h4 h5 g1 g2 g3 g4 g5
    have hSr := z08 hS hx
    have C4 := fun Y : Later wr => zvr (S := S) v1 v3 xn yn xm ym Y.w' (h4.ext Y.h hSr) (g4.ext Y.h hSr) (z08 hSr Y.h)
    have C7 := fun Y : Later wr => zvq (S := S) v2 v4 xo yo Y.w' (h5.ext Y.h hSr) (g5.ext Y.h hSr) (z08 hSr Y.h)
    have L1 := fun Y : Later wr => Y.h.cell h1
    have L2 := fun Y : Later wr => Y.h.cell h2
    have L3 := fun Y : Later wr => Y.h.cell h3
    have M1 := fun Y : Later wr => Y.h.cell g1
    have M2 := fun Y : Later wr => Y.h.cell g2
    have M3 := fun Y : Later wr => Y.h.cell g3
    obtain ⟨a1, c1, rfl⟩ := h4.form
    obtain ⟨a2, c2, rfl⟩ := h5.form
    obtain ⟨a3, c3, rfl⟩ := g4.form
    obtain ⟨a4, c4, rfl⟩ := g5.form
    have hlen : Hid (xs.length = na ∧ ys.length = na) := hid ⟨HNA.out.symm, HNB.out.symm⟩
    have q1 : (k : Int) < (na : Int) := by omega
    clear h1 h2 h3 h4 h5 g1 g2 g3 g4 g5 hxk hyk hx hSr
    cases hd4 : (decide (xn = yn) && decide (xm = ym)) with
    | false =>
     have HF : Hid (xs ≠ ys) := hid (z66 HXK.out HYK.out (fun e => by
      simp at e
      obtain ⟨⟨e1, e2⟩, e3⟩ := e
      rw [e1, e2] at hd4
      simp at hd4))
     simp only [hd4] at C4
     have HC4 := hid C4
     have HC7 := hid C7
     clear C4 C7 hd4
     go_wp2
     refine z03 (by kernel_rfl) (by kernel_rfl) ?_
     repeat (go_big_quiet_step (first | (go_at_call 59; exact Later.done (HC4.out _))))
     refine wpQuiet_nil ?_
     intro W2 hW2
     have HW2 := hid (HX.out.trans hW2)
     clear L1 L2 L3 M1 M2 M3 hW2
     go_wp2
     go_ret
     exact ⟨by rw [decide_eq_false HF.out]; rfl, HW2.out⟩
    | true =>
     have HE4 := hid hd4
     simp only [hd4] at C4
     have HC4 := hid C4
     clear C4 hd4
     cases hd7 : decide (xo = yo) with
     | false =>
      have HF : Hid (xs ≠ ys) := hid (z66 HXK.out HYK.out (fun e => by
       simp at e
       obtain ⟨⟨e1, e2⟩, e3⟩ := e
       rw [e3] at hd7
       simp at hd7))
      simp only [hd7] at C7
      have HC7 := hid C7
      clear C7 hd7
      go_wp2
      refine z03 (by kernel_rfl) (by kernel_rfl) ?_
      repeat (go_big_quiet_step (first | (go_at_call 59; exact Later.done (HC4.out _)) | (go_at_call 60; exact Later.done (HC7.out _))))
      refine wpQuiet_nil ?_
      intro W2 hW2
      have HW2 := hid (HX.out.trans hW2)
      clear L1 L2 L3 M1 M2 M3 hW2
      go_wp2
      go_ret
      exact ⟨by rw [decide_eq_false HF.out]; rfl, HW2.out⟩
     | true =>
      have HF : Hid (xs.take (k + 1) = ys.take (k + 1)) := hid (z37 HE.out HXK.out (by
       have h4 := HE4.out
       simp at h4 hd7
       rw [h4.1, h4.2, hd7]
       exact HYK.out))
      simp only [hd7] at C7
      have HC7 := hid C7
      clear C7 hd7
      go_wp2
      refine z03 (by kernel_rfl) (by kernel_rfl) ?_
      repeat (go_big_quiet_step (first | (go_at_call 59; exact Later.done (HC4.out _)) | (go_at_call 60; exact Later.done (HC7.out _))))
      refine wpQuiet_nil ?_
      intro W2 hW2
      have HW2 := hid (HX.out.trans hW2)
      clear L1 L2 L3 M1 M2 M3 hW2
      go_wp2
      go_roundw
      case rel => exact ⟨k + 1, by omega, by go_num, HW2.out, HF⟩
      case measure => simp only [intOf]; omega
   ·obtain rfl : k = na := by omega
    have HF : Hid (xs = ys) := hid (by have := HE.out; rwa [List.take_of_length_le (by rw [← HNA.out]; exact Nat.le_refl _), List.take_of_length_le (by rw [← HNB.out]; exact Nat.le_refl _)] at this)
    clear hx
    go_wp2
    go_ret
    exact ⟨by rw [decide_eq_true HF.out]; rfl, HX.out⟩
 ·have hb : ((na : Int) != (nb : Int)) = true := by rw [bne_iff_ne]; omega
  have HF : Hid (xs ≠ ys) := hid (fun e => hne (by rw [HNA.out, HNB.out, e]))
  clear hne
  go_enter Tryz.func25, Tryz.ntmps25
  go_wp2
  go_ret
  exact ⟨by rw [decide_eq_false HF.out]; rfl, Ext.refl _⟩
end
section
open Go.RowKit
def z83 (p : PZ) : Bool := decide (p.length ≤ 10) && p.all fun t => decide (t.1.natAbs ≤ 100) && mayM t.2
theorem z5a {p : PZ} (h : z83 p = true) : bndP p 10 100 := by
 unfold z83 at h
 simp only [Bool.and_eq_true, decide_eq_true_eq, List.all_eq_true] at h
 exact ⟨h.1, fun t ht => (h.2 t ht).1⟩
theorem z2z {p : PZ} (h : z83 p = true) : z0i p := by
 unfold z83 at h
 simp only [Bool.and_eq_true, decide_eq_true_eq, List.all_eq_true] at h
 exact fun t ht => (h.2 t ht).2
theorem z5f {p : PZ} (h : z83 p = true) : szP p := zbg (z5a h) (n := 3) (by omega) (by decide) (by omega)
theorem zje {p q : PZ} (hp : z83 p = true) (hq : z83 q = true) (k : Nat) (_ : k ≤ q.length) : szP (addP p (q.take k)) := by
 have h1 := ziq (l := q.take k) (N := 100) (z5a hp) (fun t ht => (z5a hq).2 t (List.mem_of_mem_take ht))
 have h2 : (q.take k).length ≤ 10 := Nat.le_trans (by rw [List.length_take]; omega) (z5a hq).1
 refine zbg h1 (n := 5) (by omega) ?_ (by omega)
 have : (q.take k).length * 100 ≤ 10 * 100 := Nat.mul_le_mul_right _ h2
 omega
theorem zjf {p q : PZ} (hp : z83 p = true) (hq : z83 q = true) : szM p q := by
 obtain ⟨a1, a2⟩ := z5a hp
 obtain ⟨b1, b2⟩ := z5a hq
 have h1 : p.length * q.length ≤ 10 * 10 := Nat.mul_le_mul a1 b1
 refine ⟨10000, 7, fun t ht u hu => ?_, by omega, ?_, by omega⟩
 ·rw [Int.natAbs_mul]
  exact Nat.mul_le_mul (a2 t ht) (b2 u hu)
 ·have : p.length * q.length * 10000 ≤ 100 * 10000 := Nat.mul_le_mul_right _ h1
  omega
abbrev k9X : PZ := [(1, [(1, 1)])]
abbrev k9Y : PZ := [(1, [(2, 1)])]
end
section
open Go.RowKit
theorem zgk {W W' : World} (h : W.grownBy W' none) : Ext W W' := ⟨h.os, h.tape, h.output, h.size, fun k hk => h.block k hk (by simp)⟩
theorem zvs {W : World} {v : Value} {p : PZ} (h : PV W v p) : PM none W v p := h.to (Kept.refl _ _) (fun _ h => ⟨h, by simp⟩)
section
variable {W : World} {vf vg : Value} {v : Int} {f g : PZ} {A B T M : Nat}
end
abbrev k121 : PZ := [(1, [])]
theorem z2i {p : PZ} (hc : canP p) (h : z83 p = true) : Fit 1 10 p := ⟨hc, fun t ht => by
 have h1 := (z5a h).2 t ht
 show t.1.natAbs < B32 ^ 1
 unfold B32
 omega, (z5a h).1⟩
end
end Go.Proofs.YthdcaablomgboaaGreat
