/- Layer 16's statements: what is not too great. Chain: what is no identity, for lengths that differ or polynomials that may not be. The document's check of an identity: lengths that differ. Layer 16: the program's check of an identity and the document's answer alike. What layer 16's law knows: y^2 by x^2 - 2 and y - x, plainly. What layer 16's law knows. Layer 16: what is known of arguments that may be. The document's chain: its polynomials out of given ones. The document's rest by a chain: what lies in memory; powers apart from given blocks. Which of two lists of polynomials is lower. The document: which of two lists is lower. The document: some polynomials by rising ranks. The document's rest by a chain. Layer 16's law: are two slices of whole numbers the same. Layer 16's law: divisions that are the same. A slice from an index on, in a region with a guard. Layer 16: what the law of ChainRests stands on. -/
import Derived.Test.YthdcaablomgboaaGreatRs10
set_option maxRecDepth 100000
set_option maxHeartbeats 16000000
namespace Go.Proofs.YthdcaablomgboaaGreat
section
open Go.RowKit
theorem zt8 {ts : List RTerm} (h : z9q ts = false) : ts.length ≤ 6 ∧ ∀ t ∈ ts, t.c.mag.length ≤ 3 ∧ ∀ y ∈ t.m, y.2 ≤ 4 := by
 unfold z9q at h
 rw [Bool.or_eq_false_iff] at h
 obtain ⟨h1, h2⟩ := h
 have h3 := zod (n := 6) h1
 refine ⟨h3.1, fun t ht => ?_⟩
 have h4 := (List.any_eq_false.1 h2) t ht
 unfold zdn at h4
 rw [Bool.not_eq_true, Bool.or_eq_false_iff] at h4
 refine ⟨by have := h4.1; rw [decide_eq_false_iff_not] at this; omega, fun y hy => ?_⟩
 have := (List.any_eq_false.1 h4.2) y hy
 rw [decide_eq_true_eq] at this
 omega
theorem zpw {ts : List RTerm} (h : z9q ts = false) : z48 ts := fun t ht => Nat.le_trans ((zt8 h).2 t ht).1 (by decide)
theorem zxj {ts : List RTerm} (h : z9q ts = false) : fitT ts := ⟨fun t ht => Nat.le_trans ((zt8 h).2 t ht).1 (by decide), Nat.le_trans (zt8 h).1 (by decide)⟩
theorem zpx {ts : List RTerm} (hok : okT ts) (h : z9q ts = false) : Fit 3 6 (z0n ts) ∧ exB 4 (z0n ts) := by
 have h1 := zt8 h
 refine ⟨zou hok (fun t ht => (h1.2 t ht).1) h1.1, fun t ht u => ?_⟩
 unfold z0n at ht
 split at ht
 ·obtain ⟨y, hy, rfl⟩ := List.mem_map.1 ht
  exact zx8 (by decide) (h1.2 y hy).2 u
 ·simp at ht
theorem zlu {ls : List (List RTerm)} (h : z47 ls = false) : (∀ p ∈ ls, z9q p = false) ∧ ls.length ≤ 5 := by
 unfold z47 at h
 rw [Bool.or_eq_false_iff] at h
 refine ⟨fun p hp => by have := (List.any_eq_false.1 h.1) p hp; rwa [Bool.not_eq_true] at this, ?_⟩
 have := h.2
 rw [decide_eq_false_iff_not] at this
 omega
end
section
open Go.RowKit
end
section
open Go.RowKit
end
section
open Go.RowKit
theorem zgw {l : List (List RTerm)} (h : ∀ p ∈ l, p = ofP (z0n p)) : (l.map z0n).map ofP = l := by
 induction l with
 | nil => rfl
 | cons p r ih => rw [List.map_cons, List.map_cons, ← h p (by simp), ih (fun q hq => h q (by simp [hq]))]
theorem RPs.drop_one {S : Nat → Prop} {w : World} {b o n cap : Nat} {p : PZ} {l : List PZ} (h : RPs S w (.slice (some ⟨b, o, none⟩) n cap) (p :: l)) : RPs S w (.slice (some ⟨b, o + 1, none⟩) (n - 1) (cap - 1)) l := by
 obtain ⟨b', off, ⟨a', cap', h1, h2, h3, h4, h5⟩, hc⟩ := h
 obtain ⟨e1, rfl, rfl⟩ : some (⟨b, o, none⟩ : Addr) = a' ∧ n = (p :: l).length ∧ cap = cap' := by simpa using h1
 have e2 := h4 (by simp)
 rw [← e1] at e2
 obtain ⟨rfl, rfl⟩ : b = b' ∧ o = off := by simpa using e2
 refine ⟨b, o + 1, ⟨_, cap - 1, by simp, by simp at h2; omega, by omega, fun _ => rfl, fun _ => h5 (by simp)⟩, fun j q hj => ?_⟩
 have := hc (j + 1) q (by simpa using hj)
 rwa [show o + (j + 1) = o + 1 + j by omega] at this
theorem RPs.nothing {S : Nat → Prop} {w : World} {b o n cap : Nat} {p : PZ} {l : List PZ} (h : RPs S w (.slice (some ⟨b, o, none⟩) n cap) (p :: l)) (hc : cap = 1) (a : Option Addr) (c : Nat) (hcm : c ≤ 9223372036854775807) : RPs S w (.slice a 0 c) l := by
 obtain ⟨b', off, ⟨a', cap', h1, h2, h3, h4, h5⟩, -⟩ := h
 obtain ⟨-, rfl, rfl⟩ : some (⟨b, o, none⟩ : Addr) = a' ∧ n = (p :: l).length ∧ cap = cap' := by simpa using h1
 simp at h2
 obtain rfl : l = [] := List.length_eq_zero_iff.1 (by omega)
 exact ⟨0, 0, ⟨a, c, rfl, Nat.zero_le _, hcm, fun h => by simp at h, fun h => by simp at h⟩, fun j n hj => by simp at hj⟩
end
section
abbrev k16A : PZ := [(1, [(1, 2)]), (-2, [])]
abbrev k16B : PZ := [(1, [(2, 1)]), (-1, [(1, 1)])]
abbrev k16F : PZ := [(1, [(2, 2)])]
abbrev z96 : PZ := [(1, [(1, 2)])]
abbrev k162 : PZ := [(2, [])]
abbrev k16Q : PZ := [(1, [(2, 1)]), (1, [(1, 1)])]
abbrev k16L : List PZ := [k16A, k16B]
theorem zxk : numP 2 = k162 := by kernel_rfl
theorem zxl : z4u (z0e k9X k9X) = z96 := by kernel_rfl
theorem zxx : z4u (z0e k9Y k9Y) = k16F := by kernel_rfl
theorem zxy : addP z96 (negP k162) = k16A := by kernel_rfl
theorem zxz : addP k9Y (negP k9X) = k16B := by kernel_rfl
theorem zca {a b : Int × Mono} (ha : a.1 ≠ 0 ∧ mayM a.2 = true) (hb : b.1 ≠ 0 ∧ mayM b.2 = true) (h : z0f a.2 b.2 = 1) : canP [a, b] :=
 ⟨fun t ht => by rcases List.mem_cons.1 ht with rfl | ht; exact ha; rw [List.mem_singleton.1 ht]; exact hb, List.pairwise_cons.2 ⟨fun u hu => by rw [List.mem_singleton.1 hu]; exact h, List.pairwise_singleton _ _⟩⟩
theorem zcb {a : Int × Mono} (ha : a.1 ≠ 0 ∧ mayM a.2 = true) : canP [a] := ⟨fun t ht => by rw [List.mem_singleton.1 ht]; exact ha, List.pairwise_singleton _ _⟩
theorem z67 : canP k16A := zca ⟨by decide, by kernel_rfl⟩ ⟨by decide, by kernel_rfl⟩ (by kernel_rfl)
theorem z68 : canP k16B := zca ⟨by decide, by kernel_rfl⟩ ⟨by decide, by kernel_rfl⟩ (by kernel_rfl)
theorem zes : canP k16Q := zca ⟨by decide, by kernel_rfl⟩ ⟨by decide, by kernel_rfl⟩ (by kernel_rfl)
theorem zaq : canP k16F := zcb ⟨by decide, by kernel_rfl⟩
theorem zgx : canP z96 := zcb ⟨by decide, by kernel_rfl⟩
theorem zt9 : canP k162 := zcb ⟨by decide, by kernel_rfl⟩
theorem zxm : divK none true k16L 1 default k16F = ⟨0, k16Q, z96, 2, default⟩ := by kernel_rfl
theorem zxn : divK none true k16L 0 default z96 = ⟨0, k121, k162, 1, default⟩ := by kernel_rfl
theorem zta : z24 none true k16L 2 default k16F [0, 0] [[], []] = (0, default, k162, [1, 2], [k121, k16Q]) := by kernel_rfl
theorem ztb : z3g none true k16B (z18 k16B 2) 2 (degP k16B 2) 100 10000 ((degP k16F 2).toNat + 1) default [] k16F :=
 za6 (A := 1) (T := 10) (z2i z68 (by kernel_rfl)) ((z2i z68 (by kernel_rfl)).coef _ _) (by decide) (by decide) (by rw [show degP k16B 2 = 1 by kernel_rfl]; decide) (by decide) _ 2 1 1 _ _ _ (z6t.mono (by decide) (by decide)) (⟨zaq, (z2i zaq (by kernel_rfl)).2.1, by decide⟩) (fun _ => by rw [show degP k16B 2 = 1 by kernel_rfl, show degP k16F 2 = 2 by kernel_rfl]; decide) (by decide) (by decide)
theorem ztc : z3g none true k16A (z18 k16A 1) 1 (degP k16A 1) 100 10000 ((degP z96 1).toNat + 1) default [] z96 :=
 za6 (A := 1) (T := 10) (z2i z67 (by kernel_rfl)) ((z2i z67 (by kernel_rfl)).coef _ _) (by decide) (by decide) (by rw [show degP k16A 1 = 2 by kernel_rfl]; decide) (by decide) _ 2 1 1 _ _ _ (z6t.mono (by decide) (by decide)) (⟨zgx, (z2i zgx (by kernel_rfl)).2.1, by decide⟩) (fun _ => by rw [show degP k16A 1 = 2 by kernel_rfl, show degP z96 1 = 2 by kernel_rfl]; decide) (by decide) (by decide)
theorem zxo : k16L.getD 1 [] = k16B := rfl
theorem zxp : k16L.getD 0 [] = k16A := rfl
theorem zcc : z0r k16B = 2 := by kernel_rfl
theorem zcd : z0r k16A = 1 := by kernel_rfl
theorem zpy : RedStep none true k16B k16F default := by
 refine ⟨⟨1, 10, 100, 10000, z2i z68 (by kernel_rfl), by decide, by decide, by decide, by decide, by decide, ?_⟩, ?_, ?_⟩
 ·rw [zcc]; exact ztb
 ·rw [zcc]; decide
 ·rw [zcc, show degP k16B 2 = 1 by kernel_rfl]; decide
theorem zpz : RedStep none true k16A z96 default := by
 refine ⟨⟨1, 10, 100, 10000, z2i z67 (by kernel_rfl), by decide, by decide, by decide, by decide, by decide, ?_⟩, ?_, ?_⟩
 ·rw [zcd]; exact ztc
 ·rw [zcd]; decide
 ·rw [zcd, show degP k16A 1 = 2 by kernel_rfl]; decide
theorem ztd : powN (z1m k16B) 2 = some k121 := by kernel_rfl
theorem zjm : powN (z1m k16A) 1 = some k121 := by kernel_rfl
theorem zlv : RoundFit none k16B 2 1 ⟨0, k16Q, z96, 2, default⟩ [[], []] :=
 ⟨by decide, by rw [show (DRes.n ⟨0, k16Q, z96, 2, default⟩) = 2 from rfl, ztd]; rfl, ⟨1, 10, z2i z68 (by kernel_rfl), by decide, by decide, by decide, by decide⟩, fun _ => trivial⟩
theorem zwa : CofStep k16Q k121 := ⟨⟨1, 10, 1, 10, z2i zes (by kernel_rfl), z2i z7l (by kernel_rfl), .inl (by decide), by decide, by decide, by decide, by decide, by decide⟩, by rw [show z0e k16Q k121 = some k16Q by kernel_rfl]; rfl⟩
theorem zlw : RoundFit none k16A 2 0 ⟨0, k121, k162, 1, default⟩ [[], k16Q] :=
 ⟨by decide, by rw [show (DRes.n ⟨0, k121, k162, 1, default⟩) = 1 from rfl, zjm]; rfl, ⟨1, 10, z2i z67 (by kernel_rfl), by decide, by decide, by decide, by decide⟩, fun _ => by
  rw [show (powN (z1m k16A) (DRes.n ⟨0, k121, k162, 1, default⟩)).getD [] = k121 by rw [show (DRes.n ⟨0, k121, k162, 1, default⟩) = 1 from rfl, zjm]; rfl]
  exact ⟨zwa, fun _ => trivial⟩⟩
theorem zwb : z1b none true k16B 2 1 ⟨0, k16Q, z96, 2, default⟩ [[], []] = (0, default, [[], k16Q]) := by kernel_rfl
theorem zwc : z22 none true k16L 2 default k16F [[], []] := by
 rw [z22, zxm, zxo]
 refine ⟨zpy, fun _ _ _ => zlv, fun _ => ?_⟩
 rw [show k16L.length = 2 from rfl, zwb]
 show z22 none true k16L 1 default z96 [[], k16Q]
 rw [z22, zxn, zxp]
 exact ⟨zpz, fun _ _ _ => zlw, fun _ => trivial⟩
end
section
open Go.RowKit Go.Deep
theorem z30 (w : World) (a b : Value) (T : TypeId) : (w.alloc (.cells #[a, b] T)).cell? ⟨w.heap.size, 0, none⟩ = some a ∧ (w.alloc (.cells #[a, b] T)).cell? ⟨w.heap.size, 1, none⟩ = some b := ⟨z01 _ _ _ rfl rfl, z01 _ _ _ rfl rfl⟩
theorem zq0 : mayC 0 (k16L.map ofP) = true := by kernel_rfl
theorem zwd : mayC 0 ([k16B, k16A].map ofP) = false := by kernel_rfl
theorem z6z {l : List PZ} (h : ∀ p ∈ l, z83 p = true ∧ canP p) : z55 (l.map ofP) := fun t ht => by
 obtain ⟨p, hp, rfl⟩ := List.mem_map.1 ht
 exact (z2i (h p hp).2 (h p hp).1).small (by decide)
theorem zet : ∀ p ∈ k16L, z83 p = true ∧ canP p := fun p hp => by
 rcases List.mem_cons.1 hp with rfl | hp
 ·exact ⟨by kernel_rfl, z67⟩
 ·rw [List.mem_singleton.1 hp]; exact ⟨by kernel_rfl, z68⟩
theorem zte : ∀ p ∈ [k16B, k16A], z83 p = true ∧ canP p := fun p hp => by
 rcases List.mem_cons.1 hp with rfl | hp
 ·exact ⟨by kernel_rfl, z68⟩
 ·rw [List.mem_singleton.1 hp]; exact ⟨by kernel_rfl, z67⟩
theorem zjn : ∀ p ∈ [k121, k16Q], z83 p = true ∧ canP p := fun p hp => by
 rcases List.mem_cons.1 hp with rfl | hp
 ·exact ⟨by kernel_rfl, z7l⟩
 ·rw [List.mem_singleton.1 hp]; exact ⟨by kernel_rfl, zes⟩
theorem z7t {p : PZ} (hc : canP p) (h : z83 p = true) (hl : p.length ≤ 6) (he : p.all (fun t => t.2.all fun y => decide (y.2 ≤ 4)) = true) : Fit 3 6 p ∧ exB 4 p := by
 have f := z2i hc h
 refine ⟨⟨f.1, f.2.1.mono (by decide), hl⟩, fun t ht u => ?_⟩
 have h1 := (List.all_eq_true.1 he) t ht
 exact zx8 (by decide) (fun y hy => of_decide_eq_true ((List.all_eq_true.1 h1) y hy)) u
theorem zwe : ∀ p ∈ k16L, Fit 3 6 p ∧ exB 4 p := fun p hp => by
 rcases List.mem_cons.1 hp with rfl | hp
 ·exact z7t z67 (by kernel_rfl) (by decide) (by decide)
 ·rw [List.mem_singleton.1 hp]; exact z7t z68 (by kernel_rfl) (by decide) (by decide)
theorem zwf : ∀ p ∈ [k121, k16Q], Fit 3 6 p ∧ exB 4 p := fun p hp => by
 rcases List.mem_cons.1 hp with rfl | hp
 ·exact z7t z7l (by kernel_rfl) (by decide) (by decide)
 ·rw [List.mem_singleton.1 hp]; exact z7t zes (by kernel_rfl) (by decide) (by decide)
theorem zq1 : Fit 3 6 k16F ∧ exB 4 k16F := z7t zaq (by kernel_rfl) (by decide) (by decide)
theorem zq2 : Fit 3 6 k162 ∧ exB 4 k162 := z7t zt9 (by kernel_rfl) (by decide) (by decide)
theorem zxq : ∀ k, k < 2 → 0 ≤ ([1, 2] : List Int).getD k 0 ∧ ([1, 2] : List Int).getD k 0 ≤ 3 := fun k hk => by
 match k, hk with
 | 0, _ => decide
 | 1, _ => decide
theorem zwg : (idXs k16F k162 k16L [k121, k16Q] [1, 2] 2).1 = (idXs k16F k162 k16L [k121, k16Q] [1, 2] 2).2 := by kernel_rfl
theorem zgy {W : World} {vf vl vp vc vr : Value} (hf : PV W vf k16F) (hl : PVL W vl k16L) (hp : Ints (Old W) W vp [1, 2]) (hc : PVL W vc [k121, k16Q]) (hr : PV W vr k162) :
  Calls Tryz.prog 12 #[vf, vl, .agg #[vp, vc, vr]] W fun e W' => e = .returned (.bool true) ∧ Ext W W' := by
 have h := zcs (xs := idXs k16F k162 k16L [k121, k16Q] [1, 2]) (j := 2) hf hl hp hc hr rfl rfl zq1.1 (by decide) zq2.1 (by decide) (z6z zet) (fun p h => (zet p h).2) (z6z zjn) (fun p h => (zjn p h).2) (Nat.le_refl _) rfl
  (zls zq1.1 zq1.2 zq2.1 zq2.2 zwe zwf (by decide) rfl (Nat.le_refl _) zxq) (fun h => absurd h (by decide))
 rw [if_neg (by decide), decide_eq_true zwg] at h
 exact h
theorem ztf {W : World} {vl : Value} (hl : PVL W vl k16L) : Calls Tryz.prog 13 #[vl] W fun e W' => e = .returned (.bool true) ∧ Ext W W' := by
 have h := z40 (S := Old W) vl (k16L.map ofP) W hl (fun _ h => h) (z6z zet)
 rwa [zq0] at h
theorem ztg {W : World} {vl : Value} (hl : PVL W vl [k16B, k16A]) : Calls Tryz.prog 13 #[vl] W fun e W' => e = .returned (.bool false) ∧ Ext W W' := by
 have h := z40 (S := Old W) vl ([k16B, k16A].map ofP) W hl (fun _ h => h) (z6z zte)
 rwa [zwd] at h
theorem zgz {S : Nat → Prop} {w : World} {b : Nat} {v0 v1 : Value} {p q : List RTerm} (hb : S b) (h0 : w.cell? ⟨b, 0, none⟩ = some v0) (h1 : w.cell? ⟨b, 1, none⟩ = some v1) (t0 : z05 S w v0 p) (t1 : z05 S w v1 q) : z16 S w (.slice (some ⟨b, 0, none⟩) 2 2) [p, q] :=
 ⟨b, 0, ⟨_, 2, rfl, Nat.le_refl _, by decide, fun _ => rfl, fun _ => hb⟩, fun j t hj => by
  match j, hj with
  | 0, hj => cases hj; exact ⟨v0, h0, t0⟩
  | 1, hj => cases hj; exact ⟨v1, h1, t1⟩⟩
theorem zeu {W : World} {vf vl : Value} (hf : PV W vf k16F) (hl : PVL W vl k16L) :
  Calls Tryz.prog 16 #[.pointer none, vf, vl] W fun e W' => ∃ vp vc vr, e = .returned (.tuple #[.agg #[vp, vc, vr], .int .i64 0]) ∧ PV W' vr k162 ∧ Ints (Old W') W' vp [1, 2] ∧ PVL W' vc [k121, k16Q] ∧ Ext W W' := by
 have h := zdm (o := none) (s := default) (f := k16F) (ls := k16L) (A := 1) (T := 10) (MV.none W _) (zvs hf) (hl.to (S' := NB none W) (Kept.refl _ _) (fun _ h => ⟨h, by simp⟩)) (z2i zaq (by kernel_rfl)) (by decide) (by decide) (z6z zet) zq0 (by decide) zwc
 rw [show z24 none true k16L k16L.length default k16F (List.replicate k16L.length 0) (List.replicate k16L.length []) = (0, default, k162, [1, 2], [k121, k16Q]) from zta] at h
 exact h.mono (by
  rintro e W' ⟨vp, vc, vr, rfl, -, h2, h3, h4, h5⟩
  exact ⟨vp, vc, vr, rfl, h3.pv, h4.to (Kept.refl _ _) (fun _ h => h.2.1), h5.to (Kept.refl _ _) (fun _ h => h.2.1), zgk h2⟩)
theorem z2q (w : World) :
  Calls Tryz.prog 9 #[] w fun e w' => e = .returned (.bool true) ∧ Ext w w' := by
 have hnot : ∀ (x : Bool) (w : World), (Op.unary .not (.bool x)).run Tryz.prog w = .ok (.bool (!x)) w := fun _ _ => rfl
 go_enter Tryz.func9, Tryz.ntmps9
 have HX0 := hid (Ext.refl w)
 go_wp2_with fail
 refine (zni 1 w (by unfold z12; omega)).mono ?_
 rintro e w1 ⟨v1, rfl, hp1, hx1⟩
 have HX1 := hid (HX0.out.trans hx1)
 have HJ1 := hid (RTs.old hp1 New.lt)
 obtain ⟨a1, c1, rfl⟩ := hp1.form
 clear hx1 hp1
 go_wp2_with fail
 refine (zni 2 w1 (by unfold z12; omega)).mono ?_
 rintro e w2 ⟨v2, rfl, hp2, hx2⟩
 have HX2 := hid (HX1.out.trans hx2)
 have HJ2 := hid (RTs.on HJ1.out hx2)
 have HY2 := hid (RTs.old hp2 New.lt)
 obtain ⟨a2, c2, rfl⟩ := hp2.form
 clear hx2 hp2
 go_wp2_with fail
 refine (zfm (S := Old w2) _ _ k9X k9X w2 (fun _ h => h) HJ2.out HJ2.out (z2z (by kernel_rfl)) (z2z (by kernel_rfl)) (z5f (by kernel_rfl)) (z5f (by kernel_rfl)) (zjf (by kernel_rfl) (by kernel_rfl))).mono ?_
 rw [zxl]
 rintro e w3 ⟨v3, rfl, hp3, hx3⟩
 have HX3 := hid (HX2.out.trans hx3)
 have HJ3 := hid (RTs.on HJ2.out hx3)
 have HY3 := hid (RTs.on HY2.out hx3)
 have HU3 := hid (RTs.old hp3 (z1i (fun _ h => h) hx3))
 obtain ⟨a3, c3, rfl⟩ := hp3.form
 clear hx3 hp3
 go_wp2_with fail
 refine (z60 2 w3 (by omega)).mono ?_
 rw [zxk]
 rintro e w4 ⟨v4, rfl, hp4, hx4⟩
 have HX4 := hid (HX3.out.trans hx4)
 have HJ4 := hid (RTs.on HJ3.out hx4)
 have HY4 := hid (RTs.on HY3.out hx4)
 have HU4 := hid (RTs.on HU3.out hx4)
 have HS4 := hid (RTs.old hp4 New.lt)
 obtain ⟨a4, c4, rfl⟩ := hp4.form
 clear hx4 hp4
 go_wp2_with fail
 refine (zbl (S := Old w4) _ _ z96 k162 w4 (fun _ h => h) HU4.out HS4.out (z2z (by kernel_rfl)) (z2z (by kernel_rfl)) (z5f (by kernel_rfl)) (fun k hk => zje (q := negP k162) (by kernel_rfl) (by kernel_rfl) k (by rw [z33]; exact hk))).mono ?_
 rw [zxy]
 rintro e w5 ⟨v5, rfl, hp5, hx5⟩
 have HX5 := hid (HX4.out.trans hx5)
 have HJ5 := hid (RTs.on HJ4.out hx5)
 have HY5 := hid (RTs.on HY4.out hx5)
 have HA5 := hid (RTs.old hp5 (z1i (fun _ h => h) hx5))
 obtain ⟨a5, c5, rfl⟩ := hp5.form
 clear hx5 hp5
 go_wp2_with fail
 refine (z5o (S := Old w5) _ k16A w5 HA5.out (fun _ h => h) (z5f (by kernel_rfl)) (zis (z2z (by kernel_rfl)))).mono ?_
 rintro e w6 ⟨v6, rfl, hp6, hx6⟩
 have HX6 := hid (HX5.out.trans hx6)
 have HJ6 := hid (RTs.on HJ5.out hx6)
 have HY6 := hid (RTs.on HY5.out hx6)
 have HPA6 := hid (z05.old hp6 New.lt)
 obtain ⟨a6, c6, rfl⟩ := hp6.form
 clear hx6 hp6
 go_wp2_with fail
 refine (zbl (S := Old w6) _ _ k9Y k9X w6 (fun _ h => h) HY6.out HJ6.out (z2z (by kernel_rfl)) (z2z (by kernel_rfl)) (z5f (by kernel_rfl)) (fun k hk => zje (q := negP k9X) (by kernel_rfl) (by kernel_rfl) k (by rw [z33]; exact hk))).mono ?_
 rw [zxz]
 rintro e w7 ⟨v7, rfl, hp7, hx7⟩
 have HX7 := hid (HX6.out.trans hx7)
 have HJ7 := hid (RTs.on HJ6.out hx7)
 have HY7 := hid (RTs.on HY6.out hx7)
 have HPA7 := hid (z05.on HPA6.out hx7)
 have HB7 := hid (RTs.old hp7 (z1i (fun _ h => h) hx7))
 obtain ⟨a7, c7, rfl⟩ := hp7.form
 clear hx7 hp7
 go_wp2_with fail
 refine (z5o (S := Old w7) _ k16B w7 HB7.out (fun _ h => h) (z5f (by kernel_rfl)) (zis (z2z (by kernel_rfl)))).mono ?_
 rintro e w8 ⟨v8, rfl, hp8, hx8⟩
 have HX8 := hid (HX7.out.trans hx8)
 have HY8 := hid (RTs.on HY7.out hx8)
 have HPA8 := hid (z05.on HPA7.out hx8)
 have HPB8 := hid (z05.old hp8 New.lt)
 obtain ⟨a8, c8, rfl⟩ := hp8.form
 clear hx8 hp8
 obtain ⟨nA, hnA⟩ : ∃ n, n = (ofP k16A).length := ⟨_, rfl⟩
 obtain ⟨nB, hnB⟩ : ∃ n, n = (ofP k16B).length := ⟨_, rfl⟩
 rw [← hnA] at HPA8
 rw [← hnB] at HPB8
 rw [← hnA, ← hnB]
 have HL0 : Hid (z16 (Old (w8.alloc (.cells #[.slice a6 nA c6, .slice a8 nB c8] 23))) (w8.alloc (.cells #[.slice a6 nA c6, .slice a8 nB c8] 23)) (.slice (some ⟨w8.heap.size, 0, none⟩) 2 2) (k16L.map ofP)) := hid (zgz (by show _ < _; rw [z02]; exact Nat.lt_succ_self _) (z01 _ _ _ rfl rfl) (z01 _ _ _ rfl rfl) (z05.on HPA8.out ((Ext.refl _).alloc _)) (z05.on HPB8.out ((Ext.refl _).alloc _)))
 have HLC : Hid ((w8.alloc (.cells #[.slice a6 nA c6, .slice a8 nB c8] 23)).cell? ⟨w8.heap.size, 0, none⟩ = some (.slice a6 nA c6) ∧ (w8.alloc (.cells #[.slice a6 nA c6, .slice a8 nB c8] 23)).cell? ⟨w8.heap.size, 1, none⟩ = some (.slice a8 nB c8)) := hid ⟨z01 _ _ _ rfl rfl, z01 _ _ _ rfl rfl⟩
 have HXA := hid (Ext.alloc (Ext.refl w8) (.cells #[.slice a6 nA c6, .slice a8 nB c8] 23))
 obtain ⟨w9, hw9⟩ : ∃ Y, Y = w8.alloc (.cells #[.slice a6 nA c6, .slice a8 nB c8] 23) := ⟨_, rfl⟩
 rw [← hw9] at HL0 HXA HLC
 obtain ⟨bL, hbL⟩ : ∃ b, b = w8.heap.size := ⟨_, rfl⟩
 rw [← hbL] at HL0 HLC
 have HX9 := hid (HX8.out.trans HXA.out)
 have HPA9 := hid (z05.on HPA8.out HXA.out)
 have HPB9 := hid (z05.on HPB8.out HXA.out)
 have HY9 := hid (RTs.on HY8.out HXA.out)
 have HL9 := HL0
 have HWA := hid hw9
 have HBL := hid hbL
 clear hnA hnB hw9 hbL
 go_wp2_with fail
 rw [← HWA.out, ← HBL.out]
 refine (zfm (S := Old w9) _ _ k9Y k9Y w9 (fun _ h => h) HY9.out HY9.out (z2z (by kernel_rfl)) (z2z (by kernel_rfl)) (z5f (by kernel_rfl)) (z5f (by kernel_rfl)) (zjf (by kernel_rfl) (by kernel_rfl))).mono ?_
 rw [zxx]
 rintro e w10 ⟨v10, rfl, hp10, hx10⟩
 have HX10 := hid (HX9.out.trans hx10)
 have HE1 := hid hx10
 have HPA10 := hid (z05.on HPA9.out hx10)
 have HPB10 := hid (z05.on HPB9.out hx10)
 have HL10 := hid (z16.on HL9.out hx10)
 have HF10 := hid (RTs.old hp10 (z1i (fun _ h => h) hx10))
 obtain ⟨a10, c10, rfl⟩ := hp10.form
 clear hx10 hp10
 go_wp2_with fail
 refine (z5o (S := Old w10) _ k16F w10 HF10.out (fun _ h => h) (z5f (by kernel_rfl)) (zis (z2z (by kernel_rfl)))).mono ?_
 rintro e w11 ⟨v11, rfl, hp11, hx11⟩
 have HX11 := hid (HX10.out.trans hx11)
 have HE2 := hid hx11
 have HPA11 := hid (z05.on HPA10.out hx11)
 have HPB11 := hid (z05.on HPB10.out hx11)
 have HL11 := hid (z16.on HL10.out hx11)
 have HPF11 := hid (z05.old hp11 New.lt)
 obtain ⟨a11, c11, rfl⟩ := hp11.form
 clear hx11 hp11
 go_wp2_with fail
 refine (zeu HPF11.out HL11.out).mono ?_
 rintro e w12 ⟨vp, vc, vr, rfl, hr, hp, hc, hx12⟩
 have HX12 := hid (HX11.out.trans hx12)
 have HE3 := hid hx12
 have HPA12 := hid (z05.on HPA11.out hx12)
 have HPB12 := hid (z05.on HPB11.out hx12)
 have HL12 := hid (z16.on HL11.out hx12)
 have HPF12 := hid (z05.on HPF11.out hx12)
 have HVR12 := hid (show z05 (Old w12) w12 vr (ofP k162) from hr)
 have HVP12 := hid hp
 have HVC12 := hid (show z16 (Old w12) w12 vc ([k121, k16Q].map ofP) from hc)
 have hxL := Ext.trans (Ext.refl _) hx12
 obtain ⟨ap, cp, hvp⟩ := hp.form
 have hvp2 : vp = .slice ap 2 cp := hvp
 clear hvp
 subst hvp2
 obtain ⟨ac, cc, hvc⟩ := hc.form
 have hvc2 : vc = .slice ac 2 cc := hvc
 clear hvc
 subst hvc2
 obtain ⟨ar, cr, rfl⟩ := hr.form
 obtain ⟨bp, op, rfl, -, hcp1, hcp2, -, -, hp0⟩ := HVP12.out.cellAt (k := 0) rfl
 obtain ⟨bp', op', hbp, -, -, -, -, -, hp1⟩ := HVP12.out.cellAt (k := 1) rfl
 obtain ⟨rfl, rfl⟩ : bp = bp' ∧ op = op' := by simpa using hbp
 rw [Nat.add_zero] at hp0
 have HP01 := hid (And.intro hp0 hp1)
 obtain ⟨nr, hnr⟩ : ∃ n, n = (ofP k162).length := ⟨_, rfl⟩
 rw [← hnr] at HVR12
 rw [← hnr]
 have HNR := hid hnr
 clear hx12 hr hp hc hbp hp0 hp1 hnr hxL
 have HLC12 : Hid (w12.cell? ⟨bL, 0, none⟩ = some (.slice a6 nA c6) ∧ w12.cell? ⟨bL, 1, none⟩ = some (.slice a8 nB c8)) := hid (by
  have h := Ext.trans (Ext.trans HE1.out HE2.out) HE3.out
  exact ⟨h.cell HLC.out.1, h.cell HLC.out.2⟩)
 have h0 : (w12.alloc (.cells #[.slice (some ⟨bp, op, none⟩) 2 cp, .slice ac 2 cc, .slice ar nr cr] 27)).cell? ⟨w12.heap.size, 0, none⟩ = some (.slice (some ⟨bp, op, none⟩) 2 cp) := z01 _ _ _ rfl rfl
 have h1 : (w12.alloc (.cells #[.slice (some ⟨bp, op, none⟩) 2 cp, .slice ac 2 cc, .slice ar nr cr] 27)).cell? ⟨w12.heap.size, 1, none⟩ = some (.slice ac 2 cc) := z01 _ _ _ rfl rfl
 have h2 : (w12.alloc (.cells #[.slice (some ⟨bp, op, none⟩) 2 cp, .slice ac 2 cc, .slice ar nr cr] 27)).cell? ⟨w12.heap.size, 2, none⟩ = some (.slice ar nr cr) := z01 _ _ _ rfl rfl
 have HXD := hid (Ext.alloc (Ext.refl w12) (.cells #[.slice (some ⟨bp, op, none⟩) 2 cp, .slice ac 2 cc, .slice ar nr cr] 27))
 obtain ⟨wd, hwd⟩ : ∃ Y, Y = w12.alloc (.cells #[.slice (some ⟨bp, op, none⟩) 2 cp, .slice ac 2 cc, .slice ar nr cr] 27) := ⟨_, rfl⟩
 rw [← hwd] at h0 h1 h2 HXD
 obtain ⟨bd, hbd⟩ : ∃ b, b = w12.heap.size := ⟨_, rfl⟩
 rw [← hbd] at h0 h1 h2
 have HFS : Hid (∀ Y : World, Ext wd Y → Y.cell? ⟨bd, 0, none⟩ = some (.slice (some ⟨bp, op, none⟩) 2 cp) ∧ Y.cell? ⟨bd, 1, none⟩ = some (.slice ac 2 cc) ∧ Y.cell? ⟨bd, 2, none⟩ = some (.slice ar nr cr) ∧ Y.cell? ⟨bp, op, none⟩ = some (.int .i64 1) ∧ Y.cell? ⟨bp, op + 1, none⟩ = some (.int .i64 2) ∧ Y.cell? ⟨bL, 0, none⟩ = some (.slice a6 nA c6) ∧ Y.cell? ⟨bL, 1, none⟩ = some (.slice a8 nB c8)) := hid (fun Y hY =>
  ⟨hY.cell h0, hY.cell h1, hY.cell h2, (HXD.out.trans hY).cell HP01.out.1, (HXD.out.trans hY).cell HP01.out.2, (HXD.out.trans hY).cell HLC12.out.1, (HXD.out.trans hY).cell HLC12.out.2⟩)
 have HXW := hid (HX12.out.trans HXD.out)
 have CS : Hid (∀ Y : World, Calls Tryz.prog 34 #[.int .i64 2] Y fun e w' => ∃ v', e = .returned v' ∧ RTs (New Y w') w' v' k162 ∧ Ext Y w') := hid (fun Y => by have h := z60 2 Y (by omega); rw [zxk] at h; exact h)
 have CP := hid (fun (Y Y' : World) (v : Value) (hv : RTs (Old Y) Y v k162) (hY : Ext Y Y') => z5o (S := Old Y') v k162 Y' (RTs.on hv hY) (fun _ h => h) (z5f (by kernel_rfl)) (zis (z2z (by kernel_rfl))))
 have CE : Hid (∀ (Y Y' : World) (v : Value), Ext w12 Y → z05 (Old Y) Y v (ofP k162) → Ext Y Y' → Calls Tryz.prog 25 #[.slice ar nr cr, v] Y' fun e w' => e = .returned (.bool true) ∧ Ext Y' w') := hid (fun Y Y' v hW hv hY => (z7n _ v (ofP k162) (ofP k162) Y' (z05.on HVR12.out (hW.trans hY)) (z05.on hv hY) (fun _ h => h)).mono (by rintro e w' ⟨rfl, hx⟩; exact ⟨by simp, hx⟩))
 have CI := hid (fun (Y : World) (hY : Ext w12 Y) => zgy (z05.on HPF12.out hY) (z16.on HL12.out hY) (HVP12.out.to (Kept.ext hY (fun _ h => h)) (z5l hY)) (z16.on HVC12.out hY) (z05.on HVR12.out hY))
 have CM := hid (fun (Y : World) (hY : Ext w12 Y) => ztf (z16.on HL12.out hY))
 have CN := hid (fun (Y : World) (b : Nat) (hY : Ext w12 Y) (g0 : Y.cell? ⟨b, 0, none⟩ = some (.slice a8 nB c8)) (g1 : Y.cell? ⟨b, 1, none⟩ = some (.slice a6 nA c6)) => ztg (zgz (z09 g0) g0 g1 (z05.on HPB12.out hY) (z05.on HPA12.out hY)))
 have x0 : Ext wd wd.drew := Below.drew (Ext.refl wd)
 have S0 := HFS.out _ x0
 have HWD := hid hwd
 have HBD := hid hbd
 clear hwd hbd h0 h1 h2
 go_wp2
 rw [← HWD.out, ← HBD.out]
 go_region_held3 (fun Y => Y.cell? ⟨bd, 0, none⟩ = some (.slice (some ⟨bp, op, none⟩) 2 cp) ∧ Y.cell? ⟨bd, 1, none⟩ = some (.slice ac 2 cc) ∧ Y.cell? ⟨bd, 2, none⟩ = some (.slice ar nr cr) ∧ Y.cell? ⟨bp, op, none⟩ = some (.int .i64 1) ∧ Y.cell? ⟨bp, op + 1, none⟩ = some (.int .i64 2) ∧ Y.cell? ⟨bL, 0, none⟩ = some (.slice a6 nA c6) ∧ Y.cell? ⟨bL, 1, none⟩ = some (.slice a8 nB c8)) (first | exact S0 | exact S1 | exact S2 | exact S3 | exact S4 | exact S5 | exact S6 | exact HFS.out _ ((Ext.refl wd).alloc _).drew | exact HFS.out _ (HZ.out.alloc _))
  (first
   | (go_at_call 34; with_reducible refine (CS.out _).mono ?_
      rintro e u1 ⟨v1, rfl, hv, hx⟩
      have HZ : Hid (Ext wd u1) := hid (Ext.trans (by first | exact x0 | exact ((Ext.refl wd).alloc _).drew) hx)
      have S1 := HFS.out _ HZ.out
      (try (have HN : Hid (u1.cell? ⟨wd.heap.size, 0, none⟩ = some (.slice a8 nB c8) ∧ u1.cell? ⟨wd.heap.size, 1, none⟩ = some (.slice a6 nA c6)) := hid ⟨hx.cell (z30 wd _ _ _).1, hx.cell (z30 wd _ _ _).2⟩))
      have HQ := hid (RTs.old hv New.lt); have qf : ∃ a c, v1 = Value.slice a 1 c := hv.form; obtain ⟨aq, cq, rfl⟩ := qf; clear hx hv)
   | (go_at_call 26; with_reducible refine (CP.out _ _ _ HQ.out (by first | exact Ext.refl _ | exact (Ext.refl _).alloc _)).mono ?_
      rintro e u2 ⟨v2, rfl, hv, hx⟩
      have HZ : Hid (Ext wd u2) := hid ((HZ.out.trans (by first | exact Ext.refl _ | exact (Ext.refl _).alloc _)).trans hx)
      have S2 := HFS.out _ HZ.out
      (try (have HN := hid (And.intro (hx.cell HN.out.1) (hx.cell HN.out.2))))
      (try (have HN : Hid (u2.cell? ⟨u1.heap.size, 0, none⟩ = some (.slice a8 nB c8) ∧ u2.cell? ⟨u1.heap.size, 1, none⟩ = some (.slice a6 nA c6)) := hid ⟨hx.cell (z30 u1 _ _ _).1, hx.cell (z30 u1 _ _ _).2⟩))
      have HQ := hid (z05.old hv New.lt); obtain ⟨at2, ct2, rfl⟩ := hv.form; obtain ⟨nt2, hnt⟩ : ∃ n, n = (ofP k162).length := ⟨_, rfl⟩; rw [← hnt] at HQ; rw [← hnt]; clear hx hv hnt)
   | (go_at_call 25; with_reducible refine (CE.out _ _ _ (HXD.out.trans HZ.out) HQ.out (by first | exact Ext.refl _ | exact (Ext.refl _).alloc _)).mono ?_
      rintro e u3 ⟨rfl, hx⟩
      have HZ : Hid (Ext wd u3) := hid ((HZ.out.trans (by first | exact Ext.refl _ | exact (Ext.refl _).alloc _)).trans hx)
      have S3 := HFS.out _ HZ.out
      (try (have HN := hid (And.intro (hx.cell HN.out.1) (hx.cell HN.out.2))))
      (try (have HN : Hid (u3.cell? ⟨u2.heap.size, 0, none⟩ = some (.slice a8 nB c8) ∧ u3.cell? ⟨u2.heap.size, 1, none⟩ = some (.slice a6 nA c6)) := hid ⟨hx.cell (z30 u2 _ _ _).1, hx.cell (z30 u2 _ _ _).2⟩))
      clear hx)
   | (go_at_call 12; with_reducible refine (CI.out _ ((HXD.out.trans HZ.out).trans (by first | exact Ext.refl _ | exact (Ext.refl _).alloc _))).mono ?_
      rintro e u4 ⟨rfl, hx⟩
      have HZ : Hid (Ext wd u4) := hid ((HZ.out.trans (by first | exact Ext.refl _ | exact (Ext.refl _).alloc _)).trans hx)
      have S4 := HFS.out _ HZ.out
      (try (have HN := hid (And.intro (hx.cell HN.out.1) (hx.cell HN.out.2))))
      (try (have HN : Hid (u4.cell? ⟨u3.heap.size, 0, none⟩ = some (.slice a8 nB c8) ∧ u4.cell? ⟨u3.heap.size, 1, none⟩ = some (.slice a6 nA c6)) := hid ⟨hx.cell (z30 u3 _ _ _).1, hx.cell (z30 u3 _ _ _).2⟩))
      clear hx)
   | (go_at_call_of 13 (Value.slice (some ⟨bL, 0, none⟩) 2 2); with_reducible refine (CM.out _ ((HXD.out.trans HZ.out).trans (by first | exact Ext.refl _ | exact (Ext.refl _).alloc _))).mono ?_
      rintro e u5 ⟨rfl, hx⟩
      have HZ : Hid (Ext wd u5) := hid ((HZ.out.trans (by first | exact Ext.refl _ | exact (Ext.refl _).alloc _)).trans hx)
      have S5 := HFS.out _ HZ.out
      (try (have HN := hid (And.intro (hx.cell HN.out.1) (hx.cell HN.out.2))))
      (try (have HN : Hid (u5.cell? ⟨u4.heap.size, 0, none⟩ = some (.slice a8 nB c8) ∧ u5.cell? ⟨u4.heap.size, 1, none⟩ = some (.slice a6 nA c6)) := hid ⟨hx.cell (z30 u4 _ _ _).1, hx.cell (z30 u4 _ _ _).2⟩))
      clear hx)
   | (go_at_call 13
      first
       | with_reducible refine (CN.out _ _ (HXD.out.trans HZ.out) HN.out.1 HN.out.2).mono ?_
       | with_reducible refine (CN.out _ _ ((HXD.out.trans HZ.out).trans ((Ext.refl _).alloc _)) (z30 u5 _ _ _).1 (z30 u5 _ _ _).2).mono ?_
      rintro e u6 ⟨rfl, hx⟩
      have HZ : Hid (Ext wd u6) := hid ((HZ.out.trans (by first | exact Ext.refl _ | exact (Ext.refl _).alloc _)).trans hx)
      have S6 := HFS.out _ HZ.out
      clear hx))
 all_goals
  go_wp2
  go_ret
  exact ⟨rfl, HXW.out.trans HZ.out⟩
 end
section
open Go.RowKit Go.Deep
theorem zth {l : List (List RTerm)} : ∀ {c : Int}, mayC c l = true → l.all mayT = true := by
 induction l with
 | nil => intro c _; rfl
 | cons p r ih =>
  intro c h
  rw [mayC] at h
  split at h
  ·rename_i h1
   rw [Bool.and_eq_true] at h1
   rw [List.all_cons, h1.1, ih h]
   rfl
  ·cases h
theorem zti {f : List RTerm} {l : List (List RTerm)} (h : (f :: l).all mayT = false) : (mayT f && mayC 0 l) = false := by
 cases h1 : mayT f && mayC 0 l with
 | false => rfl
 | true =>
  rw [Bool.and_eq_true] at h1
  rw [List.all_cons, h1.1, zth h1.2] at h
  cases h
theorem ztj {w : World} {v : Value} {ls : List (List RTerm)} (h : z16 (Old w) w v ls) (hm : ls.all mayT = true) : ∀ p ∈ ls, okT p ∧ p = ofP (z0n p) := fun p hp => by
 obtain ⟨j, hj⟩ := List.getElem?_of_mem hp
 obtain ⟨b, off, -, hc⟩ := h
 obtain ⟨vp, -, ht⟩ := hc j p hj
 exact ⟨ht.okT, zxt ht (List.all_eq_true.1 hm p hp)⟩
end
section
open Go.RowKit
theorem zce {S : Nat → Prop} (v : Value) (ls : List (List RTerm)) (w : World) (h : z16 S w v ls) (hS : ∀ k, S k → k < w.heap.size) (hfit : ∀ ts ∈ ls, fitT ts) (hlen : ls.length ≤ 1000000) :
  Calls Tryz.prog 10 #[v] w fun e w' => ∃ v', e = .returned (.tuple #[v', .bool (ls.all mayT)]) ∧ (ls.all mayT = true → RPs (Plus S w w') w' v' (ls.map z0n)) ∧ Ext w w' := by
 have hnot : ∀ (x : Bool) (w : World), (Op.unary .not (.bool x)).run Tryz.prog w = .ok (.bool (!x)) w := fun _ _ => rfl
 have H := hid h
 have HF := hid hfit
 have HL := hid hlen
 have hl := h.len_le
 obtain ⟨a, cap, rfl⟩ := h.form
 clear h hfit hlen
 go_enter Tryz.func10, Tryz.ntmps10
 go_wp2
 go_loopw [4, 5] (fun o i wr => ∃ k xs, k ≤ ls.length ∧ i = .int .i64 (k : Nat) ∧ Ext w wr ∧ Hid (wr.ownsRow w.heap.size 35 1 o k xs) ∧ Hid (z4v (Off S w wr o) wr xs ((ls.take k).map z0n)) ∧ Hid ((ls.take k).all mayT = true)) (fun _ i _ => ls.length - (intOf i).toNat)
 case atStart => exact ⟨0, [], Nat.zero_le _, rfl, Ext.refl _, hid (World.ownsRow_nil _ _ _ _), hid (z4v.nil _ _), hid rfl⟩
 case round =>
  obtain ⟨k, xs, hk, rfl, hx, HW, HXS, HA⟩ := hrel
  have HX := hid hx
  by_cases hlt : k < ls.length
  ·obtain ⟨t, ht⟩ := z00 hlt
   obtain ⟨b, off, vp, rfl, -, hq1, hm1, hSb, h1, h2⟩ := H.out.cellAt ht
   have HT : Hid ((ls.take (k + 1)).map z0n = (ls.take k).map z0n ++ [z0n t]) := hid (by rw [List.take_add_one, ht, List.map_append]; rfl)
   have HFT := hid (HF.out t (List.mem_of_getElem? ht))
   have HTK : Hid (ls.take (k + 1) = ls.take k ++ [t]) := hid (by rw [List.take_add_one, ht]; rfl)
   have HTM := hid (List.mem_of_getElem? ht)
   have g1 := Ext.cell hx h1
   have C := znb (S := S) vp t wr (h2.ext hx hS) (z08 hS hx) HFT.out.1
   have HOK := hid h2.okT
   have H2 := hid h2
   obtain ⟨am, cm, rfl⟩ := h2.form
   generalize hr : mayT t = r at *
   have HR := hid hr
   have HC := hid C
   clear hx ht h1 h2 C hr
   cases r with
   | true =>
    have HPP := hid (zle HR.out)
    have HCAN := hid (zic HR.out)
    go_wp2_with fail
    refine HC.out.mono ?_
    rintro e w1 ⟨rfl, hx1⟩
    have HX1 := hid (HX.out.trans hx1)
    have k1 := hx1.cell g1
    have HW1 := hid (z0z HW.out hx1)
    have HXS1 := hid (zdc hS HX.out HXS.out hx1)
    have CO := hid (zr8 (S := S) _ t w1 (H2.out.ext HX1.out hS) (z08 hS HX1.out) HFT.out.1 HCAN.out.may (fun k _ => by rw [zoa HCAN.out]; exact zed (zvb HOK.out HFT.out) k))
    clear hx1 g1
    go_wp2_with fail
    refine CO.out.mono ?_
    rintro e w2 ⟨v2, rfl, hp2, hx2⟩
    have HX2 := hid (HX1.out.trans hx2)
    have HW2 := hid (z0z HW1.out hx2)
    have HXS2 := hid (zdc hS HX1.out HXS1.out hx2)
    have HP2 := hid (zva hS HX1.out HW1.out hx2 hp2)
    obtain ⟨a2, c2, rfl⟩ := hp2.form
    obtain ⟨n2, hn2⟩ : ∃ n, n = (z0m (toP t)).length := ⟨_, rfl⟩
    rw [← hn2] at HP2 ⊢
    clear hx2 hp2 hn2
    go_wp2_with (at_builtin; refine z0h _ rfl (.tmp 18) (.tmp 24) 30 rfl w.heap.size 35 (.slice none 0 0) 1 24 Tryz.underlying30 Tryz.infoP rfl (by decide) _ k xs rfl HW2.out #[.slice a2 n2 c2] rfl (z2u rfl) rfl (by have := HL.out; omega) (by decide) HX2.out.size ?_; intro v3 w3 hown hg hbk; have HW3 := hid hown; have HG3 := hid hg; have HBK := hid hbk; clear hown hg hbk)
    go_roundw
    case rel =>
     refine ⟨k + 1, xs ++ [.slice a2 n2 c2], by omega, by go_num, z2a HX2.out HW2.out HG3.out, HW3, hid ?_, hid (by rw [HTK.out, List.all_append, HA.out]; simp [HR.out])⟩
     rw [HT.out, HPP.out, ← z2n HCAN.out]
     exact zg8 hS HX2.out (HXS2.out.snoc HP2.out) HG3.out HBK.out
    case measure => simp only [intOf]; omega
   | false =>
    have HNA : Hid (ls.all mayT = false) := hid (List.all_eq_false.2 ⟨t, HTM.out, by rw [HR.out]; exact Bool.false_ne_true⟩)
    go_wp2_with fail
    refine HC.out.mono ?_
    rintro e w1 ⟨rfl, hx1⟩
    have HX1 := hid (HX.out.trans hx1)
    clear hx1
    go_wp2
    all_goals
     go_ret2
     rw [HNA.out]
     exact ⟨_, rfl, fun h => (by cases h), HX1.out⟩
  ·obtain rfl : k = ls.length := by omega
   have HE : Hid (ls.take ls.length = ls) := hid (List.take_length)
   have HAA : Hid (ls.all mayT = true) := hid (by have := HA.out; rwa [HE.out] at this)
   clear hx
   go_wp2
   go_ret2
   rw [HAA.out]
   refine ⟨_, rfl, fun _ => ?_, HX.out⟩
   have hc := HXS.out
   rw [HE.out] at hc
   refine zv9 (by rw [List.length_map]; exact HW.out) (hc.to (Kept.refl _ _) (fun _ h => h.1)) (fun k h1 h2 => .inr ⟨h1, h2⟩)
end
section
open Go.RowKit Go.Deep
theorem RMV.set {W : World} {o : Option Nat} {s : MSt} {bd : Nat} (h : RMV W o s) (hob : ∀ b, o = some b → b ≠ bd) {a : Addr} (ha : a.block = bd) (u : Value) : RMV (W.setCell a u) o s := fun b hb => by
 refine ⟨(h b hb).1.grown (r := some bd) (z27 (z26 W (some bd)) ha u) (fun e => hob b hb (Option.some.inj e)), (h b hb).2⟩
structure Apart (S : Nat → Prop) (o : Option Nat) (br hi : Nat) (C : World) : Prop where
 hS : ∀ k, S k → k < br
 ho : ∀ b, o = some b → b < br ∧ ¬ S b
 hb : br ≤ hi
 hi : hi ≤ C.heap.size
section
variable {S : Nat → Prop} {o : Option Nat} {br hi : Nat} {C Y Y' : World} {v : Value} {p : PZ} {m : Nat} {V : Nat → Value} {cs : List PZ}
theorem Apart.lt (A : Apart S o br hi C) : ∀ k, S k → k < C.heap.size := fun k h => by have := A.hS k h; have := A.hb; have := A.hi; omega
theorem Apart.free (A : Apart S o br hi C) : ∀ k, Plus S C Y k → some k ≠ o ∧ ¬ (br ≤ k ∧ k < hi) := fun k hk => by
 rcases hk with h | h
 ·refine ⟨fun e => (A.ho k e.symm).2 h, fun e => by have := A.hS k h; omega⟩
 ·refine ⟨fun e => by have h1 := (A.ho k e.symm).1; have := A.hb; have := A.hi; have := h.1; omega, fun e => by have := A.hi; have := h.1; omega⟩
theorem Apart.now (A : Apart S o br hi C) (hz : C.heap.size ≤ Y.heap.size) : ∀ k, Plus S C Y k → k < Y.heap.size := zgl A.lt hz
theorem zwh (A : Apart S o br hi C) (hz : C.heap.size ≤ Y.heap.size) (g : Gx o br hi Y Y') : Kept (Plus S C Y) Y Y' := fun k hk => g.block k (A.now hz k hk) (A.free k hk).1 (A.free k hk).2
theorem zq3 (g : Y.heap.size ≤ Y'.heap.size) : ∀ k, Plus S C Y k → Plus S C Y' k := fun k hk => by
 rcases hk with h | h
 ·exact .inl h
 ·exact .inr ⟨h.1, Nat.lt_of_lt_of_le h.2 g⟩
theorem RQ.gx (h : RQ S C Y v p) (A : Apart S o br hi C) (hz : C.heap.size ≤ Y.heap.size) (g : Gx o br hi Y Y') : RQ S C Y' v p := h.to (zwh A hz g) (zq3 g.size)
def CofR (S : Nat → Prop) (C Y : World) (m : Nat) (V : Nat → Value) (cs : List PZ) : Prop := cs.length = m ∧ ∀ i, i < m → RQ S C Y (V i) (cs.getD i [])
theorem CofR.gx (h : CofR S C Y m V cs) (A : Apart S o br hi C) (hz : C.heap.size ≤ Y.heap.size) (g : Gx o br hi Y Y') : CofR S C Y' m V cs := ⟨h.1, fun i k => RQ.gx (h.2 i k) A hz g⟩
theorem CofR.set (h : CofR S C Y m V cs) {k : Nat} {x : Value} {p : PZ} (hk : k < m) (hx : RQ S C Y x p) : CofR S C Y m (setV V k x) (cs.set k p) := by
 refine ⟨by rw [List.length_set]; exact h.1, fun i hi => ?_⟩
 unfold setV
 simp only [List.getD_eq_getElem?_getD, List.getElem?_set]
 by_cases e : i = k
 ·subst e
  rw [if_pos rfl, if_pos rfl, if_pos (by rw [h.1]; exact hk)]
  exact hx
 ·rw [if_neg e, if_neg (fun h => e h.symm), ← List.getD_eq_getElem?_getD]
  exact h.2 i hi
theorem CofR.rps {T : TypeId} {bq : Nat} (h : CofR S C Y m V cs) (hr : Y.rowIs bq T m V) (hm : m ≤ maxLen) {S' : Nat → Prop} (hS : ∀ k, Plus S C Y k → S' k) (hq : S' bq) : RPs S' Y (.slice (some ⟨bq, 0, none⟩) m m) cs := by
 refine ⟨bq, 0, ⟨_, m, by rw [h.1], by rw [h.1]; exact Nat.le_refl _, hm, fun _ => rfl, fun _ => hq⟩, fun j p hj => ?_⟩
 have hl := z04 hj
 rw [h.1] at hl
 rw [z41 (by rw [h.1]; exact hl)] at hj
 obtain rfl := Option.some.inj hj
 exact ⟨V j, by rw [Nat.zero_add]; exact hr.cell hl, (h.2 j hl).to (Kept.refl _ _) hS⟩
end
theorem zxr {S : Nat → Prop} {C W : World} {u : Value} {h P : PZ} {A T n : Nat} (hS : ∀ k, S k → k < C.heap.size) (hz : C.heap.size ≤ W.heap.size) (hp : RQ S C W u h) (fh : Fit A T h) (hA : A ≤ 100) (hT : 1 ≤ T) (hT2 : T ≤ 1000000000000) (hn : n ≤ 100) (hTn : T ^ n ≤ 1000000000000) (hP : powN h n = some P) :
  Calls Tryz.prog 37 #[u, .int .i64 (n : Nat)] W fun e w' => ∃ v', e = .returned (.tuple #[v', .bool true]) ∧ RQ S C w' v' P ∧ Ext W w' := by
 have C1 : Hid (Calls Tryz.prog 34 #[.int .i64 1] W fun e w' => ∃ v', e = .returned v' ∧ RTs (New W w') w' v' [(1, [])] ∧ Ext W w') := hid (z60 1 W (by decide))
 have HP := hid hp
 have HF := hid fh
 have HAA := hid hA
 have HTT := hid hT
 have HT2 := hid hT2
 have HTN := hid hTn
 have HPP := hid hP
 have HSS := hid hS
 have HZZ := hid hz
 obtain ⟨a, c, rfl⟩ := hp.form
 obtain ⟨nh, hnh⟩ : ∃ n, n = h.length := ⟨_, rfl⟩
 rw [← hnh] at HP ⊢
 clear hp fh hnh hA hT hT2 hTn hP hS hz
 go_enter Tryz.func37, Tryz.ntmps37
 go_wp2_with fail
 with_reducible refine C1.out.mono ?_
 rintro e w1 ⟨v1, rfl, h1, hx1⟩
 have HX1 := hid hx1
 have H1 : Hid (RQ S C w1 v1 [(1, [])]) := hid (h1.to (Kept.refl _ _) (fun k h => .inr ⟨Nat.le_trans HZZ.out h.1, h.2⟩))
 clear h1 hx1
 go_wp2
 go_loopw [6, 7, 8] (fun x b i wr => ∃ (k : Nat) (Q : PZ), k ≤ n ∧ i = .int .i64 (k : Nat) ∧ b = .bool true ∧ Ext W wr ∧ Hid (powN h k = some Q) ∧ Hid (RQ S C wr x Q)) (fun _ _ i _ => n - (intOf i).toNat)
 case atStart => exact ⟨0, [(1, [])], Nat.zero_le _, rfl, rfl, HX1.out, rfl, H1⟩
 case round =>
  obtain ⟨k, Q, hk, rfl, rfl, hx, HPK, HO⟩ := hrel
  have HX := hid hx
  by_cases hlt : k < n
  ·have hle : T ^ k ≤ T ^ n := Nat.pow_le_pow_right HTT.out (by omega)
   have hle2 : T ^ (k + 1) ≤ T ^ n := Nat.pow_le_pow_right HTT.out (by omega)
   have fP := z93 HF.out HTT.out k Q (Nat.le_trans hle HTN.out) HPK.out
   have hkA : 1 + k * (A + 2) ≤ 20000 := by
    have h1 : k * (A + 2) ≤ 100 * 102 := Nat.mul_le_mul (by omega) (by have := HAA.out; omega)
    omega
   have HPS : Hid (powN h (k + 1) = z0e Q h) := hid (by rw [powN, HPK.out])
   obtain ⟨R, hR⟩ : ∃ R, z0e Q h = some R := by
    cases hq : z0e Q h with
    | some R => exact ⟨R, rfl⟩
    | none =>
     exfalso
     have h1 := zgm (HPS.out.trans hq) (n := n) (by omega)
     rw [HPP.out] at h1
     cases h1
   have HPR : Hid (powN h (k + 1) = some R) := hid (HPS.out.trans hR)
   have C := z7o HSS.out (Nat.le_trans HZZ.out hx.size) HO.out (RQ.ext HSS.out HZZ.out HP.out hx) fP HF.out (by have := HAA.out; omega) (Nat.le_trans hle HTN.out) HT2.out (by rw [← Nat.pow_succ]; exact Nat.le_trans hle2 HTN.out)
   rw [hR] at C
   have HCT := hid C
   obtain ⟨ao, co, rfl⟩ := HO.out.form
   obtain ⟨no, hno⟩ : ∃ n, n = Q.length := ⟨_, rfl⟩
   rw [← hno] at HO HCT ⊢
   clear hle hle2 fP hkA hR hno hx C
   go_wp2_with fail
   with_reducible refine HCT.out.mono ?_
   rintro e w4 ⟨v4, rfl, hp4, hx4⟩
   have HX4 := hid (HX.out.trans hx4)
   have HP4 := hid hp4
   clear hp4 hx4
   go_wp2
   go_roundw
   case rel => exact ⟨k + 1, R, by omega, by go_num, rfl, HX4.out, HPR, HP4⟩
   case measure => simp only [intOf]; omega
  ·obtain rfl : k = n := by omega
   have hPQ : P = Q := by have h1 := HPP.out; rw [HPK.out] at h1; exact (Option.some.inj h1).symm
   subst hPQ
   clear hx
   go_wp2
   all_goals
    go_ret2
    exact ⟨_, rfl, HO.out, HX.out⟩
end
section
open Go.RowKit
end
section
open Go.RowKit
end
section
open Go.RowKit
theorem RPs.nilv (S : Nat → Prop) (w : World) (a : Option Addr) (cap : Nat) (h : cap ≤ 9223372036854775807) : RPs S w (.slice a 0 cap) [] :=
 ⟨0, 0, ⟨a, cap, rfl, Nat.zero_le _, h, fun h => absurd h (Nat.lt_irrefl 0), fun h => absurd h (Nat.lt_irrefl 0)⟩, fun j t hj => by simp at hj⟩
end
section
open Go.RowKit Go.Deep
def zev (S : Nat → Prop) (W : World) (o : Option Nat) (X : Int × MSt × PZ × List Int × List PZ) : Ending → World → Prop := fun e W' => ∃ vp vc vr, e = .returned (.tuple #[.agg #[vp, vc, vr], .int .i64 X.1]) ∧ RMV W' o X.2.1 ∧ W.grownBy W' o ∧ RQ S W W' vr X.2.2.1 ∧ Ints (New W W') W' vp X.2.2.2.1 ∧ RPs (Plus S W W') W' vc X.2.2.2.2
section
variable {W C Y : World} {S : Nat → Prop} {br hi bd bp bq m : Nat} {a b c u0 u1 u2 vr : Value} {o : Option Nat} {s : MSt} {ns : List Int} {V : Nat → Value} {cs : List PZ} {r : PZ}
theorem zi5 (h : RMV Y o s) (ho : ∀ b, o = some b → b < br) : RMV (st3 Y br a b c) o s := by
 have hne : ∀ b, o = some b → b ≠ br := fun b hb => Nat.ne_of_lt (ho b hb)
 exact ((h.set hne (a := ⟨br, 0, none⟩) rfl a).set hne (a := ⟨br, 1, none⟩) rfl b).set hne (a := ⟨br, 2, none⟩) rfl c
theorem zxs (O : Own3 br hi br bd bp bq) (A : Apart S o br hi C) (hb : br = W.heap.size) (hz : C.heap.size ≤ Y.heap.size) (hm : RMV Y o s) (hg : W.grownBy Y o) (hr : RestAt 35 Y br bd bp bq m vr ns V) (hv : RQ S C Y vr r) (hc : CofR S C Y m V cs) (hn : ns.length = m) (hi64 : ∀ z ∈ ns, z12 z) (hml : m ≤ maxLen) :
  zev S W o (0, s, r, ns, cs) (.returned (.tuple #[.agg #[.slice (some ⟨bp, 0, none⟩) m m, .slice (some ⟨bq, 0, none⟩) m m, vr], .int .i64 0])) (st3 Y br (.slice (some ⟨bp, 0, none⟩) m m) (.slice (some ⟨bq, 0, none⟩) m m) vr) := by
 have hx : Gx o br hi Y (st3 Y br (.slice (some ⟨bp, 0, none⟩) m m) (.slice (some ⟨bq, 0, none⟩) m m) vr) := zgv O.r.2
 have ho : ∀ b, o = some b → b < br := fun b h => (A.ho b h).1
 have hg2 : W.grownBy (st3 Y br (.slice (some ⟨bp, 0, none⟩) m m) (.slice (some ⟨bq, 0, none⟩) m m) vr) o := ⟨hx.os.trans hg.os, hx.tape.trans hg.tape, hx.output.trans hg.output, Nat.le_trans hg.size hx.size, fun k h1 h2 => by
  rw [z1w (by omega)]
  exact hg.block k h1 h2⟩
 have hpl : ∀ Z : World, ∀ k, Plus S C Z k → Plus S W Z k := fun Z k hk => by
  rcases hk with h | h
  ·exact .inl h
  ·exact .inr ⟨by have := A.hb; have := A.hi; have := h.1; omega, h.2⟩
 obtain ⟨l1, l2, l3, l4⟩ := hr.lts
 refine ⟨_, _, _, rfl, zi5 hm ho, hg2, (hv.gx A hz hx).to (Kept.refl _ _) (hpl _), ?_, ?_⟩
 ·exact Ints.of_row (hr.P.of_block (z1w O.rp.symm)) hn hi64 hml ⟨by rw [← hb]; exact O.p.1, Nat.lt_of_lt_of_le l3 hx.size⟩
 ·exact (hc.gx A hz hx).rps (hr.Q.of_block (z1w O.rq.symm)) hml (hpl _) (.inr ⟨by rw [← hb]; exact O.q.1, Nat.lt_of_lt_of_le l4 hx.size⟩)
theorem ztz {e : Int} (hbr : br < hi) (hb : br = W.heap.size) (ho : ∀ b, o = some b → b < br) (hm : RMV Y o s) (hg : W.grownBy Y o) :
  zev S W o (e, s, [], [], []) (.returned (.tuple #[.agg #[.slice none 0 0, .slice none 0 0, .slice none 0 0], .int .i64 e])) (st3 Y br (.slice none 0 0) (.slice none 0 0) (.slice none 0 0)) := by
 have hx : Gx o br hi Y (st3 Y br (.slice none 0 0) (.slice none 0 0) (.slice none 0 0)) := zgv hbr
 have hg2 : W.grownBy (st3 Y br (.slice none 0 0) (.slice none 0 0) (.slice none 0 0)) o := ⟨hx.os.trans hg.os, hx.tape.trans hg.tape, hx.output.trans hg.output, Nat.le_trans hg.size hx.size, fun k h1 h2 => by
  rw [z1w (by omega)]
  exact hg.block k h1 h2⟩
 exact ⟨_, _, _, rfl, zi5 hm ho, hg2, RTs.nilv _ _ _ _ (by decide), zjl _ _, RPs.nilv _ _ _ _ (by decide)⟩
end
theorem zjo {W : World} {S : Nat → Prop} {o : Option Nat} {s : MSt} {vf vl : Value} {f : PZ} {ls : List PZ} {w : Bool} (hM : RMV W o s) (hS : ∀ k, S k → k < W.heap.size) (ho : ∀ b, o = some b → ¬ S b) (hf : RTs S W vf f) (hl : RPs S W vl ls) (hlen : ls.length ≤ 1000)
  (hF : z22 o w ls ls.length s f (List.replicate ls.length [])) :
  Calls Tryz.prog 21 #[mval o, vf, vl, .bool w] W (zev S W o (z24 o w ls ls.length s f (List.replicate ls.length 0) (List.replicate ls.length []))) := by
 have hnot : ∀ (x : Bool) (w : World), (Op.unary .not (.bool x)).run Tryz.prog w = .ok (.bool (!x)) w := fun _ _ => rfl
 have HF := hid hf
 have HM := hid hM
 have HL := hid hl
 have HFF := hid hF
 have HSS := hid hS
 have HBM := hid (fun b hb => And.intro (hM.block (b := b) hb) (ho b hb))
 obtain ⟨X, hX⟩ : ∃ X, X = z24 o w ls ls.length s f (List.replicate ls.length 0) (List.replicate ls.length []) := ⟨_, rfl⟩
 rw [← hX]
 have HX := hid hX
 obtain ⟨m, hm⟩ : ∃ m, m = ls.length := ⟨_, rfl⟩
 have HMM := hid hm
 rw [← hm] at hlen
 obtain ⟨af, cf, rfl⟩ := hf.form
 obtain ⟨al, cl, hl'⟩ := hl.form
 rw [← hm] at hl'
 subst hl'
 obtain ⟨nf, hnf⟩ : ∃ n, n = f.length := ⟨_, rfl⟩
 rw [← hnf] at HF ⊢
 obtain ⟨vm, hvm⟩ : ∃ x, x = mval o := ⟨_, rfl⟩
 obtain ⟨am, rfl⟩ : ∃ a, vm = .pointer a := ⟨_, hvm⟩
 rw [← hvm]
 have HVM := hid hvm
 clear hM hf hl hS ho hF hX hm hnf hvm
 have hmk := fun (Y : World) => run_make_row' (P := Tryz.prog) 25 3 (.int .i64 0) 8 Tryz.underlying25 Tryz.infoInt rfl .i64 .i64 m (by omega) (by omega) Y
 have hmq := fun (Y : World) => run_make_row' (P := Tryz.prog) 30 35 (.slice none 0 0) 24 Tryz.underlying30 Tryz.infoP rfl .i64 .i64 m (by omega) (by omega) Y
 have j0 : (W.alloc (.cells #[.slice none 0 0, .slice none 0 0, .slice none 0 0] 37)).cell? ⟨W.heap.size, 0, none⟩ = some (.slice none 0 0) := z01 _ _ _ rfl rfl
 have j1 : (W.alloc (.cells #[.slice none 0 0, .slice none 0 0, .slice none 0 0] 37)).cell? ⟨W.heap.size, 1, none⟩ = some (.slice none 0 0) := z01 _ _ _ rfl rfl
 have j2 : (W.alloc (.cells #[.slice none 0 0, .slice none 0 0, .slice none 0 0] 37)).cell? ⟨W.heap.size, 2, none⟩ = some (.slice none 0 0) := z01 _ _ _ rfl rfl
 obtain ⟨w2, hw2⟩ : ∃ Y, Y = W.alloc (.cells #[.slice none 0 0, .slice none 0 0, .slice none 0 0] 37) := ⟨_, rfl⟩
 have HX2 : Hid (Ext W w2) := hid (by rw [hw2]; exact Ext.alloc (Ext.refl W) _)
 have HZ2 : Hid (∀ i, w2.frozen? ⟨W.heap.size, i, none⟩ = false) := hid (by rw [hw2]; exact fun i => z2r W #[.slice none 0 0, .slice none 0 0, .slice none 0 0] 37 (i := i))
 rw [← hw2] at j0 j1 j2
 have HR2 := hid (And.intro j0 (And.intro j1 j2))
 have HLB : Hid (W.heap.size < w2.heap.size) := hid (z09 j0)
 have HW2 := hid hw2
 clear hw2 j0 j1 j2
 go_enter Tryz.func21, Tryz.ntmps21
 go_upto_region 1 with fail
 rw [← HW2.out]
 go_cut [10] (fun s10 wx => ∃ bd bp bq, s10 = .pointer (some ⟨bd, 0, none⟩) ∧ Hid (Own3 W.heap.size wx.heap.size W.heap.size bd bp bq) ∧ Hid (RestAt 35 wx W.heap.size bd bp bq m (.slice af nf cf) (List.replicate m 0) (fun _ => .slice none 0 0)) ∧ Hid (Ext w2 wx))
 case first =>
  go_region_held3 (fun _ => True) (exact trivial) (fail)
  all_goals
   go_wp2_with fail
   go_meet
   obtain ⟨k0, k1, k2⟩ := HR2.out
   first
    | with_reducible exact zw4 HLB.out k0 k1 k2 HZ2.out
    | with_reducible exact zw5 HLB.out k0 k1 k2 HZ2.out
    | with_reducible exact zw6 HLB.out k0 k1 k2 HZ2.out
    | with_reducible exact zw7 HLB.out k0 k1 k2 HZ2.out
    | with_reducible exact zw8 HLB.out k0 k1 k2 HZ2.out
    | with_reducible exact zw9 HLB.out k0 k1 k2 HZ2.out
 case rest =>
  obtain ⟨bd, bp, bq, rfl, HO, HRT, HXC⟩ := hcut
  have HX5 := hid (HX2.out.trans HXC.out)
  obtain ⟨br, hbr⟩ : ∃ n, n = W.heap.size := ⟨_, rfl⟩
  obtain ⟨hi, hhi⟩ : ∃ n, n = wc.heap.size := ⟨_, rfl⟩
  rw [← hbr, ← hhi] at HO
  rw [← hbr] at HRT
  rw [← hbr]
  have HBR := hid hbr
  have HHI := hid hhi
  have HOB : Hid (∀ b, o = some b → b < br) := hid (fun b hb => by rw [hbr]; exact (HBM.out b hb).1)
  have HAP : Hid (Apart S o br hi wc) := hid ⟨fun k h => by rw [hbr]; exact HSS.out k h, fun b hb => by rw [hbr]; exact HBM.out b hb, by rw [hbr, hhi]; exact HX5.out.size, by rw [hhi]; exact Nat.le_refl _⟩
  clear hbr hhi hmk hmq
  go_wp2
  go_loopw [11] (fun i wr => ∃ (k : Nat) (s1 : MSt) (vr : Value) (r1 : PZ) (ns1 : List Int) (V : Nat → Value) (cs1 : List PZ), k ≤ m ∧ i = .int .i64 ((k : Int) - 1) ∧ Hid (RMV wr o s1) ∧ Hid (Gx o br hi wc wr) ∧ Hid (RestAt 35 wr br bd bp bq m vr ns1 V) ∧ Hid (RQ S wc wr vr r1) ∧ Hid (CofR S wc wr m V cs1) ∧ Hid (z22 o w ls k s1 r1 cs1) ∧ Hid (z24 o w ls k s1 r1 ns1 cs1 = X) ∧ Hid (ns1.length = m ∧ ∀ z ∈ ns1, z12 z)) (fun i _ => (intOf i + 1).toNat)
  case atStart =>
   refine ⟨m, s, .slice af nf cf, f, List.replicate m 0, fun _ => .slice none 0 0, List.replicate m [], Nat.le_refl _, rfl, hid (HM.out.ext HX5.out), hid (Gx.refl _ _ _ _), HRT, hid ?_, hid ?_, hid ?_, hid ?_, hid ⟨by simp, fun z hz => ?_⟩⟩
   ·exact HF.out.to (Kept.ext HX5.out HSS.out) (fun k hk => .inl hk)
   ·refine ⟨by simp, fun i hi => ?_⟩
    rw [List.getD_eq_getElem?_getD, List.getElem?_replicate]
    split <;> exact RTs.nilv _ _ _ _ (by decide)
   ·rw [HMM.out]; exact HFF.out
   ·rw [HX.out, HMM.out]
   ·rw [List.eq_of_mem_replicate hz]; unfold z12; omega
  case round =>
   obtain ⟨k, s1, vr, r1, ns1, V, cs1, hk, rfl, HMV, HG, HRA, HRV, HCV, HRF, HRD, HNS⟩ := hrel
   have HGW : Hid (W.grownBy wr o) := hid (((z42 HX5.out).trans HG.out).gb (by rw [HBR.out]; exact Nat.le_refl _))
   have HZW : Hid (wc.heap.size ≤ wr.heap.size) := hid HG.out.size
   cases k with
   | zero =>
    have HX0 : Hid (X = (0, s1, r1, ns1, cs1)) := hid HRD.out.symm
    obtain ⟨ar, cr, rfl⟩ := HRV.out.form
    obtain ⟨nr, hnr⟩ : ∃ n, n = r1.length := ⟨_, rfl⟩
    rw [← hnr] at HRA HRV
    have d0 := HRA.out.d0
    have d1 := HRA.out.d1
    have d2 := HRA.out.d2
    have y0 := HRA.out.r0
    have y1 := HRA.out.r1
    have y2 := HRA.out.r2
    have z0 := HRA.out.rz 0
    have z1 := HRA.out.rz 1
    have z2 := HRA.out.rz 2
    have f0 := zep (a := .slice (some ⟨bp, 0, none⟩) m m) (b := .slice (some ⟨bq, 0, none⟩) m m) (c := .slice ar nr cr) y0
    have f1 := zeq (a := .slice (some ⟨bp, 0, none⟩) m m) (b := .slice (some ⟨bq, 0, none⟩) m m) (c := .slice ar nr cr) y1
    have f2 := zer (a := .slice (some ⟨bp, 0, none⟩) m m) (b := .slice (some ⟨bq, 0, none⟩) m m) (c := .slice ar nr cr) y2
    have HFIN := hid (zxs HO.out HAP.out HBR.out HZW.out HMV.out HGW.out HRA.out HRV.out HCV.out HNS.out.1 HNS.out.2 (by unfold maxLen; omega))
    unfold st3 at f0 f1 f2 HFIN
    clear hnr
    go_wp2
    all_goals
     refine bodyPost_ret (v := .tuple #[.agg #[.slice (some ⟨bp, 0, none⟩) m m, .slice (some ⟨bq, 0, none⟩) m m, .slice ar nr cr], .int .i64 0]) (by simp [results, Tryz.results21, go_sem, f0, f1, f2]) rfl ?_
     rw [HX0.out]
     exact HFIN.out
   | succ q =>
    have hq1 : ((q + 1 : Nat) : Int) - 1 = (q : Int) := by omega
    have hqm : q < m := by omega
    have HRS := hid HRF.out.1
    obtain ⟨⟨A2, T2, B2, M2, fp, hA2, hB2, hT2, hTb2, hTM2, hFR2⟩, hlead, hdeg⟩ := HRS.out
    have hcls := z8h fp.can
    have hdn : (divK o w ls q s1 r1).n ≤ 10001 := zvu (o := o) (keep := w) (s := s1) (g := ls.getD q []) (v := z0r (ls.getD q [])) hFR2.now.2.can.may
    obtain ⟨bl, ol, vl, hal, -, hl1, hl2, hSl, hlc, htl⟩ := HL.out.cellAt (z41 (k := q) (l := ls) (by rw [← HMM.out]; exact hqm))
    have HSl := hid hSl
    have HTL : Hid (RQ S wc wr vl (ls.getD q [])) := hid (RQ.gx (C := wc) (Y := wc) (htl.to (Kept.ext HX5.out HSS.out) (fun k hk => .inl hk)) HAP.out (Nat.le_refl _) HG.out)
    have hlcr : wr.cell? ⟨bl, ol + q, none⟩ = some vl := (World.cell?_of_block (HGW.out.block bl (HSS.out bl hSl) (fun e => (HBM.out bl e.symm).2 hSl))).trans hlc
    have CC0 := fun (Y : World) (hY : Ext wr Y) => z64 vl _ Y (RQ.old HAP.out.lt (Nat.le_trans HZW.out hY.size) (RQ.gx HTL.out HAP.out HZW.out (z42 hY))) fp.can.may
    rw [hcls] at CC0
    have CC := hid CC0
    have CR0 : ∀ Y : World, Ext wr Y → Calls Tryz.prog 55 #[mval o, vr, vl, .int .i64 (z0r (ls.getD q [])), .bool w] Y (zjh (Plus S wc Y) Y o (divK o w ls q s1 r1)) := fun (Y : World) (hY : Ext wr Y) =>
     zsk (HMV.out.ext hY) (HAP.out.now (Nat.le_trans HZW.out hY.size)) (fun b hb hp => (HAP.out.free b hp).1 hb.symm) (RQ.gx HRV.out HAP.out HZW.out (z42 hY)) (RQ.gx HTL.out HAP.out HZW.out (z42 hY)) fp hFR2 hA2 hB2 hT2 hTb2 hTM2 hlead hdeg
    rw [← HVM.out] at CR0
    have CR := hid CR0
    have HRND := hid HRF.out.2.1
    have HRF3 := hid HRF.out.2.2
    have hrd := HRD.out
    rw [z24] at hrd
    generalize divK o w ls q s1 r1 = R at CR HRND HRF3 hrd hdn
    obtain ⟨re, rq, rr, rn, rs⟩ := R
    simp only at HRND HRF3 hrd hdn
    have HDN2 := hid hdn
    have HRDX := hid hrd
    have HLW := hid HRA.out.lts
    obtain ⟨ar, cr, rfl⟩ := HRV.out.form
    obtain ⟨all, cll, rfl⟩ := htl.form
    obtain ⟨nr, hnr⟩ : ∃ n, n = r1.length := ⟨_, rfl⟩
    obtain ⟨nl1, hnl1⟩ : ∃ n, n = (ls.getD q []).length := ⟨_, rfl⟩
    rw [← hnr, ← hnl1] at CR
    rw [← hnl1] at CC hlcr
    rw [← hnr] at HRA
    have HNL := hid hnl1
    have HFS : Hid (∀ Y : World, wr.grownBy Y o → Y.cell? ⟨bl, ol + q, none⟩ = some (.slice all nl1 cll) ∧ Y.cell? ⟨bd, 2, none⟩ = some (.slice ar nr cr)) := hid (fun Y hY =>
     ⟨(World.cell?_of_block (hY.block bl (Nat.lt_of_lt_of_le (HSS.out bl HSl.out) HGW.out.size) (fun e => (HBM.out bl e.symm).2 HSl.out))).trans hlcr, (HRA.out.gb HO.out HOB.out hY).d2⟩)
    have x0 := Below.drew (Ext.refl wr)
    have HX0 : Hid (Ext wr _) := hid x0
    have S0 := HFS.out _ (z07 HX0.out o)
    have HC1 := hid (CC.out _ x0)
    subst hal
    clear fp hA2 hB2 hT2 hTb2 hTM2 hFR2 hlead hdeg htl hnr hnl1 hlc hlcr x0 hrd CR0 CC0 hdn hcls hSl
    simp only [hq1]
    go_wp2
    go_region_held3 (fun Y => Y.cell? ⟨bl, ol + q, none⟩ = some (.slice all nl1 cll) ∧ Y.cell? ⟨bd, 2, none⟩ = some (.slice ar nr cr)) (first | exact S0 | exact S1 | exact S2)
     (first
    | (go_at_call 54; refine HC1.out.mono ?_
       rintro e u1 ⟨rfl, hx1⟩; have HX1 : Hid (Ext wr u1) := hid (Ext.trans HX0.out hx1); have S1 := HFS.out _ (z07 HX1.out o); have HC2 := hid (CR.out u1 HX1.out); clear hx1)
    | (go_at_call 55; refine HC2.out.mono ?_
       rintro e u2 ⟨q2, x2, rfl, hm2, hg2, hq2, hr2⟩; have HG2 := hid (z06 (z07 HX1.out o) hg2); have S2 := HFS.out _ HG2.out; have HM2 := hid hm2; have hzz := Nat.le_trans HZW.out HX1.out.size; have HQ2 : Hid (RQ S wc u2 q2 rq) := hid (hq2.to (Kept.refl _ _) (z6w hzz hg2.size)); have HR2 : Hid (RQ S wc u2 x2 rr) := hid (hr2.to (Kept.refl _ _) (z6w hzz hg2.size)); have qf := hr2.form; obtain ⟨a2, c2, rfl⟩ := qf; obtain ⟨n2, hn2⟩ : ∃ n, n = rr.length := ⟨_, rfl⟩; rw [← hn2] at HR2; rw [← hn2]; have qf := hq2.form; obtain ⟨a3, c3, rfl⟩ := qf; obtain ⟨n3, hn3⟩ : ∃ n, n = rq.length := ⟨_, rfl⟩; rw [← hn3] at HQ2; rw [← hn3]; clear hm2 hg2 hq2 hr2 hn2 hn3 hzz))
    all_goals
     have HX2 := hid (zi3 (lo := br) (hi := hi) HG2.out)
     have HRA2 := hid (HRA.out.gb HO.out HOB.out HG2.out)
     have HCV2 := hid (HCV.out.gx HAP.out HZW.out HX2.out)
     have HZ2 : Hid (wc.heap.size ≤ u2.heap.size) := hid (Nat.le_trans HZW.out HG2.out.size)
     have HGW2 : Hid (W.grownBy u2 o) := hid (z06 HGW.out HG2.out)
     clear S0 S1 S2
     by_cases h0 : re = 0
     ·subst h0
      have HR6 := hid (HRA2.out.setQ HO.out q (.slice a3 n3 c3))
      have HR7 := hid (HR6.out.setD HO.out (.slice a2 n2 c2))
      have HR8 := hid (HR7.out.setP HO.out q (rn : Int) (by rw [HNS.out.1]; exact hqm))
      obtain ⟨W6, hW6⟩ : ∃ Y, Y = u2.setCell ⟨bq, q, none⟩ (.slice a3 n3 c3) := ⟨_, rfl⟩
      rw [← hW6] at HR6 HR7 HR8
      obtain ⟨W7, hW7⟩ : ∃ Y, Y = W6.setCell ⟨bd, 2, none⟩ (.slice a2 n2 c2) := ⟨_, rfl⟩
      rw [← hW7] at HR7 HR8
      obtain ⟨W8, hW8⟩ : ∃ Y, Y = W7.setCell ⟨bp, q, none⟩ (.int .i64 (rn : Nat)) := ⟨_, rfl⟩
      rw [← hW8] at HR8
      have HX8 : Hid (Gx o br hi u2 W8) := hid (by
       have g6 : Gx o br hi u2 W6 := by rw [hW6]; exact z49 _ (a := ⟨bq, q, none⟩) HO.out.q.1 HO.out.q.2 _
       have g7 : Gx o br hi W6 W7 := by rw [hW7]; exact z49 _ (a := ⟨bd, 2, none⟩) HO.out.d.1 HO.out.d.2 _
       have g8 : Gx o br hi W7 W8 := by rw [hW8]; exact z49 _ (a := ⟨bp, q, none⟩) HO.out.p.1 HO.out.p.2 _
       exact (g6.trans g7).trans g8)
      have HM8 : Hid (RMV W8 o rs) := hid (by
       have hne : ∀ k, br ≤ k → ∀ b, o = some b → b ≠ k := fun k hk b hb => by have := HOB.out b hb; omega
       rw [hW8, hW7, hW6]
       exact ((HM2.out.set (hne bq HO.out.q.1) (a := ⟨bq, q, none⟩) rfl _).set (hne bd HO.out.d.1) (a := ⟨bd, 2, none⟩) rfl _).set (hne bp HO.out.p.1) (a := ⟨bp, q, none⟩) rfl _)
      have HV8 : Hid (RQ S wc W8 (.slice a2 n2 c2) rr) := hid (RQ.gx HR2.out HAP.out HZ2.out HX8.out)
      have HC8 : Hid (CofR S wc W8 m (setV V q (.slice a3 n3 c3)) (cs1.set q rq)) := hid ((HCV2.out.gx HAP.out HZ2.out HX8.out).set hqm (RQ.gx HQ2.out HAP.out HZ2.out HX8.out))
      have HG8 : Hid (Gx o br hi wc W8) := hid ((HG.out.trans HX2.out).trans HX8.out)
      have HZ8 : Hid (wc.heap.size ≤ W8.heap.size) := hid HG8.out.size
      have HN8 : Hid ((ns1.set q (rn : Int)).length = m ∧ ∀ z ∈ ns1.set q (rn : Int), z12 z) := hid ⟨by rw [List.length_set]; exact HNS.out.1, fun z hz => by
       rcases List.mem_or_eq_of_mem_set hz with h | h
       ·exact HNS.out.2 z h
       ·rw [h]; unfold z12; have h1 := HDN2.out; omega⟩
      have HW6 := hid hW6
      have HW7 := hid hW7
      have HW8 := hid hW8
      have d1 := HRA2.out.d1
      have d2 := HR6.out.d2
      have dz := HR6.out.dz 2
      have d0 := HR7.out.d0
      have q1 := HRA2.out.Q.cell hqm
      have qz := HRA2.out.Q.frozen q
      have p1 := HR7.out.P.cell hqm
      have pz := HR7.out.P.frozen q
      rw [hW7] at p1 pz d0
      rw [hW6] at d2 dz p1 pz d0
      clear hW6 hW7 hW8
      by_cases hn0 : rn = 0 ∨ w = false
      ·have HRC : Hid (z1b o w (ls.getD q []) ls.length q ⟨0, rq, rr, rn, rs⟩ cs1 = (0, rs, cs1.set q rq)) := hid (by
        unfold z1b
        rw [if_neg (fun h => h rfl), if_pos hn0])
       have HRD8 : Hid (z24 o w ls q rs rr (ns1.set q (rn : Int)) (cs1.set q rq) = X) := hid (by
        have h := HRDX.out
        rw [HRC.out] at h
        exact (if_neg (fun h => h rfl)).symm.trans h)
       have HRF8 : Hid (z22 o w ls q rs rr (cs1.set q rq)) := hid (by
        have h := HRF3.out
        rw [HRC.out] at h
        exact h rfl)
       have HREL := hid (And.intro HM8.out (And.intro HG8.out (And.intro HR8.out (And.intro HV8.out (And.intro HC8.out HN8.out)))))
       have hww : W8 = W7.setCell ⟨bp, q, none⟩ (.int .i64 (rn : Nat)) := HW8.out
       rw [HW7.out, HW6.out] at hww
       have HWW := hid hww
       clear hww
       by_cases hz : rn = 0
       ·subst hz
        clear hn0
        go_wp2
        go_roundw
        case rel =>
         have hww : W8 = ((u2.setCell ⟨bq, q, none⟩ (.slice a3 n3 c3)).setCell ⟨bd, 2, none⟩ (.slice a2 n2 c2)).setCell ⟨bp, q, none⟩ (.int .i64 0) := HWW.out
         rw [← hww]
         exact ⟨q, rs, .slice a2 n2 c2, rr, ns1.set q ((0 : Nat) : Int), setV V q (.slice a3 n3 c3), cs1.set q rq, by omega, by go_num, HM8, HG8, HR8, HV8, HC8, HRF8, HRD8, HN8⟩
        case measure => simp only [intOf]; omega
       ·have hw : w = false := by rcases hn0 with h | h; exact absurd h hz; exact h
        subst hw
        have q0 : ((rn : Int) == 0) = false := by rw [beq_eq_false_iff_ne]; omega
        clear hn0 hz
        go_wp2
        go_roundw
        case rel =>
         rw [← HWW.out]
         exact ⟨q, rs, .slice a2 n2 c2, rr, ns1.set q (rn : Int), setV V q (.slice a3 n3 c3), cs1.set q rq, by omega, by go_num, HM8, HG8, HR8, HV8, HC8, HRF8, HRD8, HN8⟩
        case measure => simp only [intOf]; omega
      ·obtain ⟨hn1, hw1⟩ : rn ≠ 0 ∧ w = true := ⟨fun h => hn0 (.inl h), by cases w; exact absurd (.inr rfl) hn0; rfl⟩
       subst hw1
       have hrf := HRND.out (by first | rfl | trivial) hn1 (by first | rfl | trivial)
       obtain ⟨P, hP⟩ : ∃ P, P = (powN (z1m (ls.getD q [])) rn).getD [] := ⟨_, rfl⟩
       have hn100 : rn ≤ 100 := hrf.hn
       have hpow : powN (z1m (ls.getD q [])) rn = some P := by rw [hP]; exact hrf.pow
       have HCOF : Hid ((z0o o rs P).1 = 0 → z6x o P m (m - (q + 1)) (z0o o rs P).2 (cs1.set q rq)) := hid (by rw [hP, HMM.out]; exact hrf.cof)
       obtain ⟨A3, T3, fp3, hA3, hT3, hT3b, hTn3⟩ := hrf.ex
       have hTn3' : T3 ^ rn ≤ 1000000000000 := hTn3
       obtain ⟨Y, hY⟩ : ∃ Y, Y = z1b o true (ls.getD q []) ls.length q ⟨0, rq, rr, rn, rs⟩ cs1 := ⟨_, rfl⟩
       have HY : Hid (Y = if (z0o o rs P).1 ≠ 0 then ((z0o o rs P).1, (z0o o rs P).2, []) else cofD o P m (m - (q + 1)) (z0o o rs P).2 (cs1.set q rq)) := hid (by
        rw [hY, HMM.out, hP]
        unfold z1b
        rw [if_neg (fun h => h rfl), if_neg (fun h => by rcases h with h | h; exact hn1 h; cases h)])
       have HYE : Hid (Y.1 ≠ 0 → X = (Y.1, Y.2.1, [], [], [])) := hid (fun hy => by
        have h := HRDX.out
        rw [← hY] at h
        exact ((if_pos hy).symm.trans h).symm)
       have HYO : Hid (Y.1 = 0 → z24 o true ls q Y.2.1 rr (ns1.set q (rn : Int)) Y.2.2 = X ∧ z22 o true ls q Y.2.1 rr Y.2.2) := hid (fun hy => by
        have h := HRDX.out
        have h2 := HRF3.out
        rw [← hY] at h h2
        exact ⟨(if_neg (fun k => k hy)).symm.trans h, h2 hy⟩)
       have HTL8 := hid (RQ.gx HTL.out HAP.out HZW.out (HX2.out.trans HX8.out))
       have CI := zeh (S := Plus S wc W8) (.slice all nl1 cll) (ls.getD q []) W8 (by rw [HNL.out]; have h := HTL8.out; rwa [← HNL.out] at h) (HAP.out.now HZ8.out) fp3.can (z6v fp3 (by omega) (by omega))
       have CP := hid (fun (Y : World) (u : Value) (hY : wc.heap.size ≤ Y.heap.size) (hu : RQ S wc Y u (z1m (ls.getD q []))) => zxr HAP.out.lt hY hu fp3.init (by omega) hT3 hT3b hn100 hTn3' hpow)
       have fPP := z93 fp3.init hT3 rn P hTn3' hpow
       have hAP : 1 + rn * (A3 + 2) ≤ 90000 := by
        have h1 : rn * (A3 + 2) ≤ 100 * 26 := Nat.mul_le_mul hn100 (by omega)
        omega
       have CK0 := fun (Y : World) (u : Value) (hM : RMV Y o rs) (hu : RM o Y u P) => zp4 hM hu fPP hAP hTn3'
       rw [← HVM.out] at CK0
       have CK := hid CK0
       have HCI := hid CI
       have hww : W8 = _ := HW8.out
       rw [HW7.out, HW6.out] at hww
       have HK1 : Hid (W8.cell? ⟨bl, ol + q, none⟩ = some (.slice all nl1 cll)) := hid ((World.cell?_of_block (HX8.out.block bl (Nat.lt_of_lt_of_le (HSS.out bl HSl.out) (Nat.le_trans HGW.out.size HG2.out.size)) (HAP.out.free (Y := W8) bl (.inl HSl.out)).1 (HAP.out.free (Y := W8) bl (.inl HSl.out)).2)).trans (HFS.out u2 HG2.out).1)
       have k1 := HK1.out
       rw [hww] at k1
       have HWW := hid hww
       have q0 : ((rn : Int) == 0) = false := by rw [beq_eq_false_iff_ne]; omega
       clear hrf hpow fp3 hA3 hT3 hT3b hTn3 hTn3' hn100 CK0 CI hww hP hY hn0 hn1 fPP hAP
       go_wp2_with fail
       rw [← HWW.out]
       with_reducible refine HCI.out.mono ?_
       rintro e w9 ⟨vi, rfl, ht9, hx9⟩
       have HX9 := hid hx9
       have HT9 : Hid (RQ S wc w9 vi (z1m (ls.getD q []))) := hid (ht9.to (Kept.refl _ _) (z6w HZ8.out hx9.size))
       have HCP := hid (CP.out w9 vi (Nat.le_trans HZ8.out hx9.size) HT9.out)
       obtain ⟨ai, ci, rfl⟩ := ht9.form
       obtain ⟨ni, hni⟩ : ∃ n, n = (z1m (ls.getD q [])).length := ⟨_, rfl⟩
       rw [← hni] at HCP ⊢
       clear hx9 ht9 hni k1 d0 d1 d2 dz q1 qz p1 pz
       go_wp2_with fail
       with_reducible refine HCP.out.mono ?_
       rintro e w10 ⟨v10, rfl, hp10, hx10⟩
       have HX10 : Hid (Ext W8 w10) := hid (HX9.out.trans hx10)
       have HZ10 : Hid (wc.heap.size ≤ w10.heap.size) := hid (Nat.le_trans HZ8.out HX10.out.size)
       have HM10 := hid (HM8.out.ext HX10.out)
       have HP10 := hid hp10
       have HCK := hid (CK.out w10 v10 HM10.out (RQ.rm HAP.out.lt HZ10.out (fun b hb => ⟨by have h1 := (HAP.out.ho b hb).1; have h2 := HAP.out.hb; have h3 := HAP.out.hi; omega, (HAP.out.ho b hb).2⟩) hp10))
       obtain ⟨ap, cp, rfl⟩ := hp10.form
       obtain ⟨np, hnp⟩ : ∃ n, n = P.length := ⟨_, rfl⟩
       have HNP := hid hnp
       rw [← hnp] at HCK HP10 ⊢
       clear hp10 hx10 hnp
       go_wp2_with fail
       with_reducible refine HCK.out.mono ?_
       rintro e w11 ⟨rfl, hm11, hg11⟩
       have HM11 := hid hm11
       have HX11 : Hid (Gx o br hi W8 w11) := hid ((z42 HX10.out).trans (zi3 hg11))
       have HG11 := hid ((z06 (z07 HX10.out o) hg11))
       have HR11 := hid (HR8.out.gb HO.out HOB.out HG11.out)
       have HC11 := hid (HC8.out.gx HAP.out HZ8.out HX11.out)
       have HP11 := hid (RQ.gx HP10.out HAP.out HZ10.out (zi3 hg11))
       have HZ11 : Hid (wc.heap.size ≤ w11.heap.size) := hid (Nat.le_trans HZ8.out HX11.out.size)
       clear hm11 hg11
       obtain ⟨e1, he1⟩ : ∃ z, z = (z0o o rs P).1 := ⟨_, rfl⟩
       obtain ⟨s2, hs2⟩ : ∃ z, z = (z0o o rs P).2 := ⟨_, rfl⟩
       rw [← he1, ← hs2] at HY HCOF
       rw [← he1]
       rw [← hs2] at HM11
       clear he1 hs2
       go_wp2
       go_loopw [15, 18] (fun e i wr => ∃ (t : Nat) (e2 : Int) (s3 : MSt) (V3 : Nat → Value) (cs3 : List PZ), t + (q + 1) ≤ m ∧ e = .int .i64 e2 ∧ i = .int .i64 ((m - t : Nat) : Int) ∧ Hid (Gx o br hi w11 wr) ∧ Hid (RMV wr o s3) ∧ Hid (RestAt 35 wr br bd bp bq m (.slice a2 n2 c2) (ns1.set q (rn : Int)) V3) ∧ Hid (e2 = 0 → CofR S wc wr m V3 cs3 ∧ z6x o P m t s3 cs3 ∧ cofD o P m t s3 cs3 = Y) ∧ Hid (e2 ≠ 0 → Y = (e2, s3, []))) (fun _ i _ => m - (intOf i).toNat)
       case atStart =>
        refine ⟨m - (q + 1), e1, s2, setV V q (.slice a3 n3 c3), cs1.set q rq, by omega, rfl, by go_num, hid (Gx.refl _ _ _ _), HM11, HR11, hid (fun h0 => ⟨HC11.out, HCOF.out h0, ?_⟩), hid (fun h0 => ?_)⟩
        ·rw [HY.out, if_neg (fun k => k h0)]
        ·rw [HY.out, if_pos h0]
       case round =>
        obtain ⟨t, e2, s3, V3, cs3, htm, rfl, rfl, HGI, HMI, HRI, HCI2, HEI⟩ := hrel
        have HGA := hid (HX11.out.trans HGI.out)
        by_cases h2 : e2 = 0
        ·cases t with
         | zero =>
          have hh := HCI2.out h2
          have HYV : Hid (Y = (0, s3, cs3)) := hid hh.2.2.symm
          have hy := HYO.out (by rw [HYV.out])
          rw [HYV.out] at hy
          have HC9 := hid hh.1
          have HRD9 := hid hy.1
          have HRF9 := hid hy.2
          subst h2
          clear hh hy
          go_wp2
          go_roundw
          case rel => exact ⟨q, s3, .slice a2 n2 c2, rr, ns1.set q (rn : Int), V3, cs3, by omega, by go_num, HMI, hid (HG8.out.trans HGA.out), HRI, hid (RQ.gx HV8.out HAP.out HZ8.out HGA.out), HC9, HRF9, HRD9, HN8⟩
          case measure => simp only [intOf]; omega
         | succ t =>
          obtain ⟨j, hj⟩ : ∃ j, j = m - (t + 1) := ⟨_, rfl⟩
          have HJT : Hid (m - t = j + 1) := hid (by omega)
          have hjm : j < m := by omega
          rw [← hj]
          have HZr : Hid (wc.heap.size ≤ wr.heap.size) := hid (Nat.le_trans HZ8.out HGA.out.size)
          obtain ⟨hcv, hcf, hcd⟩ := HCI2.out h2
          rw [z6x, ← hj] at hcf
          rw [cofD, ← hj] at hcd
          obtain ⟨⟨⟨k5, n5, l5, m5, fc, fP, h24, hk5, hl5, hn5, hm5, hnm⟩, hsome⟩, hnext⟩ := hcf
          obtain ⟨c, hc⟩ : ∃ c, c = (z0e (cs3.getD j []) P).getD [] := ⟨_, rfl⟩
          rw [← hc] at hsome hnext hcd
          have HCV3 := hid hcv
          have HNX := hid hnext
          have HCD := hid hcd
          have hfc := fc.times fP hsome hnm
          subst h2
          have hpj := hcv.2 j hjm
          have hPP := RQ.gx HP11.out HAP.out HZ11.out HGI.out
          have CT1 : ∀ Y : World, Ext wr Y → Calls Tryz.prog 39 #[V3 j, .slice ap np cp] Y fun e w' => ∃ v', e = .returned (.tuple #[v', .bool true]) ∧ RQ S wc w' v' c ∧ Ext Y w' := by
           intro Y hY
           have h := z7o HAP.out.lt (Nat.le_trans HZr.out hY.size) (RQ.ext HAP.out.lt HZr.out hpj hY) (RQ.ext HAP.out.lt HZr.out (by rw [HNP.out] at hPP; exact hPP) hY) fc fP (by omega) hn5 hm5 hnm
           rw [hsome, ← HNP.out] at h
           exact h
          have CK0 := fun (Y : World) (u : Value) (hM : RMV Y o s3) (hu : RM o Y u c) => zp4 hM hu hfc (by omega) hnm
          rw [← HVM.out] at CK0
          have HCK := hid CK0
          obtain ⟨aj, cj, hvj⟩ := hpj.form
          obtain ⟨nj, hnj⟩ : ∃ n, n = (cs3.getD j []).length := ⟨_, rfl⟩
          rw [← hnj] at hvj
          rw [hvj] at CT1
          have k0 : wr.cell? ⟨bq, j, none⟩ = some (.slice aj nj cj) := by rw [← hvj]; exact HRI.out.Q.cell hjm
          have S0 : wr.cell? ⟨bd, 1, none⟩ = some (.slice (some ⟨bq, 0, none⟩) m m) := HRI.out.d1
          have HC1 := hid (CT1 _ (Below.drew (Ext.refl wr)))
          clear hcd fc fP h24 hk5 hl5 hn5 hm5 hnm hsome hnext hc hcv hpj hPP CT1 CK0 hfc hvj hnj hj
          go_wp2
          first
           | go_region_with
             (first
            | (go_at_call 39; with_reducible refine HC1.out.mono ?_
               rintro e u1 ⟨x1, rfl, ht1, hx1⟩; have HU1 : Hid (Ext wr u1) := hid ((Below.drew (Ext.refl wr)).trans hx1); have HRU1 := hid (HRI.out.gb HO.out HOB.out (z07 HU1.out o)); have S1 := HRU1.out.d1; have k1 := HRU1.out.Q.cell hjm; have k2 := HRU1.out.Q.frozen j; have HT1 := hid ht1; have qf := ht1.form; obtain ⟨a5, c5, rfl⟩ := qf; obtain ⟨n5, hn5⟩ : ∃ n, n = c.length := ⟨_, rfl⟩; have HN5 := hid hn5; rw [← hn5]; clear hx1 ht1 hn5))
           | fail
          all_goals
           have HR9 := hid (HRU1.out.setQ HO.out j (.slice a5 n5 c5))
           obtain ⟨W9, hW9⟩ : ∃ Y, Y = u1.setCell ⟨bq, j, none⟩ (.slice a5 n5 c5) := ⟨_, rfl⟩
           rw [← hW9] at HR9
           have HG9 : Hid (Gx o br hi wr W9) := hid (by rw [hW9]; exact (z42 HU1.out).trans (z49 u1 (a := ⟨bq, j, none⟩) HO.out.q.1 HO.out.q.2 _))
           have HS9 : Hid (Gx o br hi u1 W9) := hid (by rw [hW9]; exact z49 u1 (a := ⟨bq, j, none⟩) HO.out.q.1 HO.out.q.2 _)
           have HM9 : Hid (RMV W9 o s3) := hid (by rw [hW9]; exact (HMI.out.ext HU1.out).set (a := ⟨bq, j, none⟩) (bd := bq) (fun b hb e => by have h1 := HOB.out b hb; have h2 := HO.out.q.1; omega) rfl _)
           have HZ1 : Hid (wc.heap.size ≤ u1.heap.size) := hid (Nat.le_trans HZr.out HU1.out.size)
           have HZ9 : Hid (wc.heap.size ≤ W9.heap.size) := hid (Nat.le_trans HZr.out HG9.out.size)
           have HT9 := hid (RQ.gx HT1.out HAP.out HZ1.out HS9.out)
           have HC9 := hid ((HCV3.out.gx HAP.out HZr.out HG9.out).set hjm (by have h := HT9.out; rw [← HN5.out] at h; exact h))
           have HK9 := hid (HCK.out W9 _ HM9.out (RQ.rm HAP.out.lt HZ9.out (fun b hb => ⟨by have h1 := (HAP.out.ho b hb).1; have h2 := HAP.out.hb; have h3 := HAP.out.hi; omega, (HAP.out.ho b hb).2⟩) HT9.out))
           rw [← HN5.out] at HK9
           have g1 := HR9.out.d1
           have g2 := HR9.out.Q.cell hjm
           have g3 : setV V3 j (.slice a5 n5 c5) j = .slice a5 n5 c5 := if_pos rfl
           rw [g3] at g2
           have HW9 := hid hW9
           rw [hW9] at g1 g2
           clear S0 S1 k0 k1 k2 g3 hW9
           go_wp2_with fail
           rw [← HW9.out]
           with_reducible refine HK9.out.mono ?_
           rintro e u3 ⟨rfl, hm3, hg3⟩
           have HM3 := hid hm3
           have HG3 := hid hg3
           have HR3 := hid (HR9.out.gb HO.out HOB.out hg3)
           have HC3 := hid (HC9.out.gx HAP.out HZ9.out (zi3 hg3))
           clear hm3 hg3 g1 g2
           go_wp2
           go_roundw
           case rel =>
            refine ⟨t, (z0o o s3 c).1, (z0o o s3 c).2, setV V3 j (.slice a5 n5 c5), cs3.set j c, by omega, rfl, by rw [HJT.out]; go_num, hid ((HGI.out.trans HG9.out).trans (zi3 HG3.out)), HM3, HR3, hid (fun h0 => ⟨HC3.out, HNX.out h0, ?_⟩), hid (fun h0 => ?_)⟩
            ·have h := HCD.out
             rwa [if_neg (fun k => k h0)] at h
            ·have h := HCD.out
             rw [if_pos h0] at h
             exact h.symm
           case measure => simp only [intOf]; omega
        ·have HXE : Hid (X = (e2, s3, [], [], [])) := hid (by
          have h := HYE.out (by rw [HEI.out h2]; exact h2)
          rwa [HEI.out h2] at h)
         have HGWI : Hid (W.grownBy wr o) := hid ((((z42 HX5.out).trans HG8.out).trans HGA.out).gb (by rw [HBR.out]; exact Nat.le_refl _))
         have qe : (e2 != 0) = true := by rw [bne_iff_ne]; exact h2
         have qe2 : (e2 == 0) = false := by rw [beq_eq_false_iff_ne]; exact h2
         have y0 := HRI.out.r0
         have y1 := HRI.out.r1
         have y2 := HRI.out.r2
         have z0 := HRI.out.rz 0
         have z1 := HRI.out.rz 1
         have z2 := HRI.out.rz 2
         have f0 := zep (a := .slice none 0 0) (b := .slice none 0 0) (c := .slice none 0 0) y0
         have f1 := zeq (a := .slice none 0 0) (b := .slice none 0 0) (c := .slice none 0 0) y1
         have f2 := zer (a := .slice none 0 0) (b := .slice none 0 0) (c := .slice none 0 0) y2
         have HFIN := hid (ztz (S := S) (e := e2) HO.out.r.2 HBR.out HOB.out HMI.out HGWI.out)
         unfold st3 at f0 f1 f2 HFIN
         clear h2
         by_cases hj : m - t < m
         ·go_wp2
          all_goals
           refine bodyPost_ret (v := .tuple #[.agg #[.slice none 0 0, .slice none 0 0, .slice none 0 0], .int .i64 e2]) (by simp [results, Tryz.results21, go_sem, f0, f1, f2]) rfl ?_
           rw [HXE.out]
           exact HFIN.out
         ·go_wp2
          all_goals
           refine bodyPost_ret (v := .tuple #[.agg #[.slice none 0 0, .slice none 0 0, .slice none 0 0], .int .i64 e2]) (by simp [results, Tryz.results21, go_sem, f0, f1, f2]) rfl ?_
           rw [HXE.out]
           exact HFIN.out
     ·have HXE : Hid (X = (re, rs, [], [], [])) := hid (by
       have h := HRDX.out
       have h1 : z1b o w (ls.getD q []) ls.length q ⟨re, rq, rr, rn, rs⟩ cs1 = (re, rs, []) := by unfold z1b; exact if_pos h0
       rw [h1, if_pos h0] at h
       exact h.symm)
      have q0 : (re != 0) = true := by rw [bne_iff_ne]; exact h0
      have y0 := HRA2.out.r0
      have y1 := HRA2.out.r1
      have y2 := HRA2.out.r2
      have z0 := HRA2.out.rz 0
      have z1 := HRA2.out.rz 1
      have z2 := HRA2.out.rz 2
      have f0 := zep (a := .slice none 0 0) (b := .slice none 0 0) (c := .slice none 0 0) y0
      have f1 := zeq (a := .slice none 0 0) (b := .slice none 0 0) (c := .slice none 0 0) y1
      have f2 := zer (a := .slice none 0 0) (b := .slice none 0 0) (c := .slice none 0 0) y2
      have HFIN := hid (ztz (S := S) (e := re) HO.out.r.2 HBR.out HOB.out HM2.out HGW2.out)
      unfold st3 at f0 f1 f2 HFIN
      clear h0
      go_wp2
      all_goals
       refine bodyPost_ret (v := .tuple #[.agg #[.slice none 0 0, .slice none 0 0, .slice none 0 0], .int .i64 re]) (by simp [results, Tryz.results21, go_sem, f0, f1, f2]) rfl ?_
       rw [HXE.out]
       exact HFIN.out
end
section
open Go.RowKit
theorem zdo {W : World} {va vb : Value} {xa xb : List Int} (ha : Ints (Old W) W va xa) (hb : Ints (Old W) W vb xb) :
  Calls Tryz.prog 18 #[va, vb] W fun e W' => e = .returned (.bool (decide (xa = xb))) ∧ Ext W W' := by
 have HA := hid ha
 have HB := hid hb
 have hla := ha.len_le
 have hlb := hb.len_le
 obtain ⟨aa, ca, rfl⟩ := ha.form
 obtain ⟨ab, cb, rfl⟩ := hb.form
 obtain ⟨na, hna⟩ : ∃ n, n = xa.length := ⟨_, rfl⟩
 obtain ⟨nb, hnb⟩ : ∃ n, n = xb.length := ⟨_, rfl⟩
 rw [← hna] at HA hla ⊢
 rw [← hnb] at HB hlb ⊢
 have HNA := hid hna
 have HNB := hid hnb
 clear ha hb hna hnb
 by_cases hl : na = nb
 ·subst hl
  have q1 : ((na : Int) != (na : Int)) = false := by rw [bne_eq_false_iff_eq]
  go_enter Tryz.func18, Tryz.ntmps18
  go_wp2
  go_loopw [13] (fun i wr => ∃ k : Nat, k ≤ na ∧ i = .int .i64 k ∧ Ext W wr ∧ Hid (xa.take k = xb.take k)) (fun i _ => na - (intOf i).toNat)
  case atStart => exact ⟨0, Nat.zero_le _, rfl, Ext.refl _, hid rfl⟩
  case round =>
   obtain ⟨k, hk, rfl, hx, HT⟩ := hrel
   have HX := hid hx
   by_cases hlt : k < na
   ·obtain ⟨x, hx1⟩ := z00 (l := xa) (j := k) (by rw [← HNA.out]; exact hlt)
    obtain ⟨y, hy1⟩ := z00 (l := xb) (j := k) (by rw [← HNB.out]; exact hlt)
    obtain ⟨ba, oa, rfl, -, ha1, ha2, hSa, hia, hca⟩ := HA.out.cellAt hx1
    obtain ⟨bb, ob, rfl, -, hb1, hb2, hSb, hib, hcb⟩ := HB.out.cellAt hy1
    obtain ⟨hi1, hi2⟩ := hia
    obtain ⟨hi3, hi4⟩ := hib
    have L1 := fun Y : Later wr => Y.h.cell (hx.cell hca)
    have L2 := fun Y : Later wr => Y.h.cell (hx.cell hcb)
    have HXA := hid hx1
    have HYB := hid hy1
    clear hx hca hcb hx1 hy1
    by_cases hxy : x = y
    ·have q2 : (x != y) = false := by rw [bne_eq_false_iff_eq]; exact hxy
     have HTK : Hid (xa.take (k + 1) = xb.take (k + 1)) := hid (by rw [List.take_add_one, List.take_add_one, HT.out, HXA.out, HYB.out, hxy])
     clear hxy
     go_wp2
     refine z03 (by kernel_rfl) (by kernel_rfl) ?_
     repeat (go_big_quiet_step (fail))
     refine wpQuiet_nil ?_
     intro W2 hW2
     have HX2 := hid (HX.out.trans hW2)
     clear hW2 L1 L2
     go_wp2
     go_roundw
     case rel => exact ⟨k + 1, by omega, by go_num, HX2.out, HTK⟩
     case measure => simp only [intOf]; omega
    ·have q2 : (x != y) = true := by rw [bne_iff_ne]; exact hxy
     have HNE : Hid (xa ≠ xb) := hid (fun e => by
      have h1 := HXA.out
      rw [e, HYB.out] at h1
      exact hxy (Option.some.inj h1).symm)
     clear hxy
     go_wp2
     refine z03 (by kernel_rfl) (by kernel_rfl) ?_
     repeat (go_big_quiet_step (fail))
     refine wpQuiet_nil ?_
     intro W2 hW2
     have HX2 := hid (HX.out.trans hW2)
     clear hW2 L1 L2
     go_wp2
     all_goals
      go_ret
      exact ⟨by rw [decide_eq_false HNE.out]; rfl, HX2.out⟩
   ·obtain rfl : k = na := by omega
    have HE : Hid (xa = xb) := hid (by
     have h := HT.out
     rwa [List.take_of_length_le (by rw [← HNA.out]; exact Nat.le_refl _), List.take_of_length_le (by rw [← HNB.out]; exact Nat.le_refl _)] at h)
    clear hx
    go_wp2
    all_goals
     go_ret
     exact ⟨by rw [decide_eq_true HE.out]; rfl, HX.out⟩
 ·have q1 : ((na : Int) != (nb : Int)) = true := by rw [bne_iff_ne]; omega
  have HNE : Hid (xa ≠ xb) := hid (fun e => hl (by rw [HNA.out, HNB.out, e]))
  go_enter Tryz.func18, Tryz.ntmps18
  go_wp2
  all_goals
   go_ret
   exact ⟨by rw [decide_eq_false HNE.out]; rfl, Ext.refl _⟩
end
section
open Go.RowKit Go.Deep
theorem zlx {W : World} {vp vc vr up uc ur : Value} {ns : List Int} {cs : List PZ} {r : PZ} {K N : Nat} (hp : Ints (Old W) W vp ns) (hc : PVL W vc cs) (hr : PV W vr r) (gp : Ints (Old W) W up ns) (gc : RPs (Old W) W uc cs) (gr : RV W ur r)
  (fr : Fit K N r) (fc : ∀ p ∈ cs, Fit K N p) (hK : K ≤ 90000) (hN : N ≤ 1000000000000) :
  Calls Tryz.prog 24 #[.agg #[vp, vc, vr], .agg #[up, uc, ur]] W fun e W' => e = .returned (.bool true) ∧ Ext W W' := by
 have hnot : ∀ (x : Bool) (w : World), (Op.unary .not (.bool x)).run Tryz.prog w = .ok (.bool (!x)) w := fun _ _ => rfl
 have CI := hid (fun (Y : World) (hY : Ext W Y) => (show Calls Tryz.prog 18 #[vp, up] Y fun e w' => e = .returned (.bool true) ∧ Ext Y w' from (zdo (hp.to (Kept.ext hY (fun _ h => h)) (z5l hY)) (gp.to (Kept.ext hY (fun _ h => h)) (z5l hY))).mono (by rintro e w' ⟨rfl, hx⟩; exact ⟨by simp, hx⟩)))
 have CP := hid (fun (Y : World) (hY : Ext W Y) => zei (RTs.on gr hY) fr hK hN)
 have CS := hid (fun (Y Z : World) (v : Value) (hY : Ext W Y) (hv : PV Y v r) (hZ : Ext Y Z) => (show Calls Tryz.prog 25 #[vr, v] Z fun e w' => e = .returned (.bool true) ∧ Ext Z w' from (z7n _ v (ofP r) (ofP r) Z (z05.on hr (hY.trans hZ)) (z05.on hv hZ) (fun _ h => h)).mono (by rintro e w' ⟨rfl, hx⟩; exact ⟨by simp, hx⟩)))
 have HC := hid hc
 have HGC := hid gc
 have HFC := hid fc
 have HKN := hid (And.intro hK hN)
 have hll := gc.len_le
 obtain ⟨ap, cp, rfl⟩ := hp.form
 obtain ⟨aq, cq, rfl⟩ := gp.form
 obtain ⟨ac, cc, hvc⟩ := hc.form
 rw [List.length_map] at hvc
 subst hvc
 obtain ⟨ad, cd, rfl⟩ := gc.form
 obtain ⟨ar, cr, rfl⟩ := hr.form
 obtain ⟨as', cs', rfl⟩ := gr.form
 obtain ⟨n, hn⟩ : ∃ n, n = ns.length := ⟨_, rfl⟩
 obtain ⟨m, hm⟩ : ∃ n, n = cs.length := ⟨_, rfl⟩
 obtain ⟨l1, hl1⟩ : ∃ n, n = (ofP r).length := ⟨_, rfl⟩
 obtain ⟨l2, hl2⟩ : ∃ n, n = r.length := ⟨_, rfl⟩
 rw [← hn] at CI ⊢
 rw [← hm] at HC HGC hll ⊢
 rw [← hl1] at CS ⊢
 rw [← hl2] at CP ⊢
 have HM := hid hm
 have k0 : ((W.alloc (.cells #[.slice ap n cp, .slice ac m cc, .slice ar l1 cr] 27)).alloc (.cells #[.slice aq n cq, .slice ad m cd, .slice as' l2 cs'] 37)).cell? ⟨W.heap.size, 0, none⟩ = some (.slice ap n cp) := cell_old _ (z01 _ _ _ rfl rfl)
 have k1 : ((W.alloc (.cells #[.slice ap n cp, .slice ac m cc, .slice ar l1 cr] 27)).alloc (.cells #[.slice aq n cq, .slice ad m cd, .slice as' l2 cs'] 37)).cell? ⟨W.heap.size, 1, none⟩ = some (.slice ac m cc) := cell_old _ (z01 _ _ _ rfl rfl)
 have k2 : ((W.alloc (.cells #[.slice ap n cp, .slice ac m cc, .slice ar l1 cr] 27)).alloc (.cells #[.slice aq n cq, .slice ad m cd, .slice as' l2 cs'] 37)).cell? ⟨W.heap.size, 2, none⟩ = some (.slice ar l1 cr) := cell_old _ (z01 _ _ _ rfl rfl)
 have q0 : ((W.alloc (.cells #[.slice ap n cp, .slice ac m cc, .slice ar l1 cr] 27)).alloc (.cells #[.slice aq n cq, .slice ad m cd, .slice as' l2 cs'] 37)).cell? ⟨W.heap.size + 1, 0, none⟩ = some (.slice aq n cq) := z01 _ _ _ (by rw [z02]) rfl
 have q1 : ((W.alloc (.cells #[.slice ap n cp, .slice ac m cc, .slice ar l1 cr] 27)).alloc (.cells #[.slice aq n cq, .slice ad m cd, .slice as' l2 cs'] 37)).cell? ⟨W.heap.size + 1, 1, none⟩ = some (.slice ad m cd) := z01 _ _ _ (by rw [z02]) rfl
 have q2 : ((W.alloc (.cells #[.slice ap n cp, .slice ac m cc, .slice ar l1 cr] 27)).alloc (.cells #[.slice aq n cq, .slice ad m cd, .slice as' l2 cs'] 37)).cell? ⟨W.heap.size + 1, 2, none⟩ = some (.slice as' l2 cs') := z01 _ _ _ (by rw [z02]) rfl
 have hx0 := Ext.alloc (Ext.alloc (Ext.refl W) (.cells #[.slice ap n cp, .slice ac m cc, .slice ar l1 cr] 27)) (.cells #[.slice aq n cq, .slice ad m cd, .slice as' l2 cs'] 37)
 obtain ⟨wd, hwd⟩ : ∃ Y, Y = (W.alloc (.cells #[.slice ap n cp, .slice ac m cc, .slice ar l1 cr] 27)).alloc (.cells #[.slice aq n cq, .slice ad m cd, .slice as' l2 cs'] 37) := ⟨_, rfl⟩
 rw [← hwd] at k0 k1 k2 q0 q1 q2 hx0
 have HX0 := hid hx0
 have HWD := hid hwd
 have HK := hid (And.intro k0 (And.intro k1 (And.intro k2 (And.intro q0 (And.intro q1 q2)))))
 have HFS : Hid (∀ Y : World, Ext wd Y → Y.cell? ⟨W.heap.size, 0, none⟩ = some (.slice ap n cp) ∧ Y.cell? ⟨W.heap.size, 1, none⟩ = some (.slice ac m cc) ∧ Y.cell? ⟨W.heap.size, 2, none⟩ = some (.slice ar l1 cr) ∧ Y.cell? ⟨W.heap.size + 1, 0, none⟩ = some (.slice aq n cq) ∧ Y.cell? ⟨W.heap.size + 1, 1, none⟩ = some (.slice ad m cd) ∧ Y.cell? ⟨W.heap.size + 1, 2, none⟩ = some (.slice as' l2 cs')) := hid (fun Y hY => ⟨hY.cell k0, hY.cell k1, hY.cell k2, hY.cell q0, hY.cell q1, hY.cell q2⟩)
 have x0 : Ext wd wd.drew := (Ext.refl wd).drew
 have S0 := HFS.out _ x0
 have HC1 := hid (CI.out _ (hx0.trans x0))
 clear hp hc hr gp gc gr fr fc hK hN hn hm hl1 hl2 k0 k1 k2 q0 q1 q2 hx0 hwd
 go_enter Tryz.func24, Tryz.ntmps24
 go_wp2
 rw [← HWD.out]
 go_region_held3 (fun Y => Y.cell? ⟨W.heap.size, 0, none⟩ = some (.slice ap n cp) ∧ Y.cell? ⟨W.heap.size, 1, none⟩ = some (.slice ac m cc) ∧ Y.cell? ⟨W.heap.size, 2, none⟩ = some (.slice ar l1 cr) ∧ Y.cell? ⟨W.heap.size + 1, 0, none⟩ = some (.slice aq n cq) ∧ Y.cell? ⟨W.heap.size + 1, 1, none⟩ = some (.slice ad m cd) ∧ Y.cell? ⟨W.heap.size + 1, 2, none⟩ = some (.slice as' l2 cs')) (first | exact S0 | exact S1 | exact S2 | exact S3)
  (first
   | (go_at_call 18; with_reducible refine HC1.out.mono ?_
      rintro e u1 ⟨rfl, hx⟩; have HZ : Hid (Ext wd u1) := hid (x0.trans hx); have S1 := HFS.out _ HZ.out; have HC2 := hid (CP.out u1 (HX0.out.trans HZ.out)); clear hx)
   | (go_at_call 26; with_reducible refine HC2.out.mono ?_
      rintro e u2 ⟨v2, rfl, hv, hx⟩; have HZ : Hid (Ext wd u2) := hid (HZ.out.trans hx); have S2 := HFS.out _ HZ.out; have HC3 := hid (CS.out u2 u2 v2 (HX0.out.trans HZ.out) hv (Ext.refl _)); obtain ⟨a2, c2, rfl⟩ := hv.form; obtain ⟨n2, hn2⟩ : ∃ n, n = (ofP r).length := ⟨_, rfl⟩; rw [← hn2] at HC3; rw [← hn2]; clear hx hv hn2)
   | (go_at_call 25; with_reducible refine HC3.out.mono ?_
      rintro e u3 ⟨rfl, hx⟩; have HZ : Hid (Ext wd u3) := hid (HZ.out.trans hx); have S3 := HFS.out _ HZ.out; clear hx))
 all_goals
  have k1 := (HFS.out _ HZ.out).2.1
  clear S0 S1 S2 S3
  go_wp2
  go_loopw [33] (fun i wr => ∃ k : Nat, k ≤ m ∧ i = .int .i64 k ∧ Ext wd wr) (fun i _ => m - (intOf i).toNat)
  case atStart => exact ⟨0, Nat.zero_le _, rfl, HZ.out⟩
  case round =>
   obtain ⟨k, hk, rfl, hx⟩ := hrel
   have HX := hid hx
   have HXW := hid (HX0.out.trans hx)
   by_cases hlt : k < m
   ·obtain ⟨bc, oc, vcj, rfl, -, hc1, hc2, -, hcc, htc⟩ := (z16.on HC.out HXW.out).cellAt (z9k (k := k) (l := cs) (by rw [← HM.out]; exact hlt))
    obtain ⟨bd, od, vdj, rfl, -, hd1, hd2, -, hdc, htd⟩ := (RPs.on HGC.out HXW.out).cellAt (z41 (k := k) (l := cs) (by rw [← HM.out]; exact hlt))
    have fp := z7r (l := cs) (P := fun p => Fit K N p) HFC.out (k := k) (by rw [← HM.out]; exact hlt)
    have CPk := hid (fun (Y : World) (hY : Ext wr Y) => zei (RTs.on htd hY) fp HKN.out.1 HKN.out.2)
    have CSk := hid (fun (Y Z : World) (v : Value) (hY : Ext wr Y) (hv : PV Y v (cs.getD k [])) (hZ : Ext Y Z) => (show Calls Tryz.prog 25 #[vcj, v] Z fun e w' => e = .returned (.bool true) ∧ Ext Z w' from (z7n _ v (ofP (cs.getD k [])) (ofP (cs.getD k [])) Z (z05.on htc (hY.trans hZ)) (z05.on hv hZ) (fun _ h => h)).mono (by rintro e w' ⟨rfl, hx⟩; exact ⟨by simp, hx⟩)))
    obtain ⟨acj, ccj, rfl⟩ := htc.form
    obtain ⟨adj, cdj, rfl⟩ := htd.form
    obtain ⟨m1, hm1⟩ : ∃ n, n = (ofP (cs.getD k [])).length := ⟨_, rfl⟩
    obtain ⟨m2, hm2⟩ : ∃ n, n = (cs.getD k []).length := ⟨_, rfl⟩
    rw [← hm1] at CSk hcc
    rw [← hm2] at CPk hdc
    have y0 : Ext wr wr.drew := (Ext.refl wr).drew
    have HCP1 := hid (CPk.out _ y0)
    have HFSk : Hid (∀ Y : World, Ext wr Y → Y.cell? ⟨W.heap.size, 1, none⟩ = some (.slice (some ⟨bc, oc, none⟩) m cc) ∧ Y.cell? ⟨W.heap.size + 1, 1, none⟩ = some (.slice (some ⟨bd, od, none⟩) m cd) ∧ Y.cell? ⟨bc, oc + k, none⟩ = some (.slice acj m1 ccj) ∧ Y.cell? ⟨bd, od + k, none⟩ = some (.slice adj m2 cdj)) := hid (fun Y hY => ⟨(HFS.out _ (HX.out.trans hY)).2.1, (HFS.out _ (HX.out.trans hY)).2.2.2.2.1, hY.cell hcc, hY.cell hdc⟩)
    have S0 := HFSk.out _ y0
    clear hx htc htd fp hm1 hm2 hcc hdc k1
    go_wp2
    go_region_held3 (fun Y => Y.cell? ⟨W.heap.size, 1, none⟩ = some (.slice (some ⟨bc, oc, none⟩) m cc) ∧ Y.cell? ⟨W.heap.size + 1, 1, none⟩ = some (.slice (some ⟨bd, od, none⟩) m cd) ∧ Y.cell? ⟨bc, oc + k, none⟩ = some (.slice acj m1 ccj) ∧ Y.cell? ⟨bd, od + k, none⟩ = some (.slice adj m2 cdj)) (first | exact S0 | exact S1 | exact S2)
     (first
      | (go_at_call 26; with_reducible refine HCP1.out.mono ?_
         rintro e u4 ⟨v4, rfl, hv, hx⟩; have HZ4 : Hid (Ext wr u4) := hid (y0.trans hx); have S1 := HFSk.out _ HZ4.out; have HCS1 := hid (CSk.out u4 u4 v4 HZ4.out hv (Ext.refl _)); obtain ⟨a4, c4, rfl⟩ := hv.form; obtain ⟨n4, hn4⟩ : ∃ n, n = (ofP (cs.getD k [])).length := ⟨_, rfl⟩; rw [← hn4] at HCS1; rw [← hn4]; clear hx hv hn4)
      | (go_at_call 25; with_reducible refine HCS1.out.mono ?_
         rintro e u5 ⟨rfl, hx⟩; have HZ5 : Hid (Ext wr u5) := hid (HZ4.out.trans hx); have S2 := HFSk.out _ HZ5.out; clear hx))
    all_goals
     go_wp2
     go_roundw
     case rel => exact ⟨k + 1, by omega, by go_num, HX.out.trans HZ5.out⟩
     case measure => simp only [intOf]; omega
   ·obtain rfl : k = m := by omega
    clear hx k1
    go_wp2
    all_goals
     go_ret
     exact ⟨rfl, HXW.out⟩
end
section
open Go.RowKit Go.Deep
theorem z4x {P : Program} (w : World) {ops : Array Oper} {rest : List Oper} {o : Oper} {a : Act} {Q : Exit → Act → World → Prop} (hw : Region.wanted o (yielded ops a.tmps) = true) (x y : Operand) (t e : TypeId)
  (ho : o.op = .slice t x (some y) none none) (ht : P.underlying t = some (.slice e)) {z : Option Value} {size bytes : Nat} (hinfo : (P.info? e).map (fun i => (i.zero, i.size, i.bytes)) = some (z, size, bytes))
  (A : Option Addr) (n cap k : Nat) (hx : a.eval x = .slice A n cap) (hy : a.eval y = .int .i64 (k : Nat)) (hk : k ≤ n)
  (h : ∀ A', A' = (if cap = k then A else A.map (·.add (k * size))) → wpList P ops Q rest (a.put o.dst (.slice A' (n - k) (cap - k))) w) : wpList P ops Q (o :: rest) a w := by
 refine wpList_step fun K hK => ?_
 rw [if_pos hw]
 have he : P.elem t = e := by simp [Program.elem, ht]
 have ht' : P.underlying t = some (.slice (P.elem t)) := by rw [he]; exact ht
 have hi : ∃ i, P.info? e = some i ∧ i.size = size := by
  cases hh : P.info? e with
  | none => rw [hh] at hinfo; simp at hinfo
  | some i =>
   rw [hh] at hinfo
   simp at hinfo
   exact ⟨i, rfl, hinfo.2.1⟩
 obtain ⟨i, hi1, hi2⟩ := hi
 unfold Oper.wp execOp
 simp only [ho, Option.map, hx, hy]
 rw [Sem.run_bind, run_sliceAt_slice _ _ _ _ _ _ ht', run_slice_l _ _ _ _ _ ht' _ _ (by omega) (by omega)]
 simp only [he, sizeOf, typeInfo, Sem.run_bind, sliced, Int.toNat_natCast]
 have := hK _ _ (h _ rfl)
 simpa [go_sem, hi1, hi2] using this
end
section
end
end Go.Proofs.YthdcaablomgboaaGreat
