/- Layer 16: the program's check of an identity and the document's answer alike. A polynomial ahead of some: append([]Poly{f}, l...). The document's chain: its polynomials out of given ones. A polynomial that is read, with the form's own bound: no slice of limbs passes it. The arguments of layer 16's statements, with the form's own bound on lists. The document's rest by a chain: what lies in memory; powers apart from given blocks. Which of two lists of polynomials is lower. The document: which of two lists is lower. The document: some polynomials by rising ranks. The document's rest by a chain. Chain: the rest alone, of what may not be. Polynomials, plain: the sum of the coefficients' sizes. Chain, plain: by a meter of little fuel all that a rest makes is small. The document's chain: are some polynomials one. Layer 16's law: are two slices of whole numbers the same. What the statements of layer 16 share. -/
import Derived.SizedLaws
import Derived.Test.YthdcaablomgboaaGreatBi9
namespace Go.Proofs.YthdcaablomgboaaGreat
open Go.RowKit

theorem first_bad {ns : List Int} : ∀ n : Nat, (∀ j, j < n → ns.getD j 0 ≤ 3 ∨ 100 < ns.getD j 0) → ∃ j, j ≤ n ∧ (∀ k, k < j → 0 ≤ ns.getD k 0 ∧ ns.getD k 0 ≤ 3) ∧ (j < n → ns.getD j 0 < 0 ∨ 100 < ns.getD j 0) := by
  intro n
  induction n with
  | zero => intro _; exact ⟨0, Nat.le_refl _, fun k hk => absurd hk (Nat.not_lt_zero _), fun h => absurd h (Nat.lt_irrefl _)⟩
  | succ n ih =>
    intro h
    obtain ⟨j, h1, h2, h3⟩ := ih (fun j hj => h j (by omega))
    rcases Nat.lt_or_ge j n with hj | hj
    · exact ⟨j, by omega, h2, fun _ => h3 hj⟩
    · obtain rfl : j = n := by omega
      by_cases hb : ns.getD j 0 < 0 ∨ 100 < ns.getD j 0
      · exact ⟨j, by omega, h2, fun _ => hb⟩
      · refine ⟨j + 1, Nat.le_refl _, fun k hk => ?_, fun h => absurd h (Nat.lt_irrefl _)⟩
        rcases Nat.lt_or_ge k j with hk2 | hk2
        · exact h2 k hk2
        · obtain rfl : k = j := by omega
          have := h k (by omega)
          omega
theorem map_plain {l : List (List RTerm)} (h : ∀ p ∈ l, p = ofP (plainP p)) : (l.map plainP).map ofP = l := by
  induction l with
  | nil => rfl
  | cons p r ih => rw [List.map_cons, List.map_cons, ← h p (by simp), ih (fun q hq => h q (by simp [hq]))]

/-- what the document's check answers -/
abbrev DocIdent (F R : PZ) (L C : List PZ) (ns : List Int) (res : Bool) : Prop := ∀ (Y : World) (v0 A vp B v1 : Value), RV Y v0 F → RPs (Old Y) Y A L → Ints (Old Y) Y vp ns → RPs (Old Y) Y B C → RV Y v1 R → Calls Tryz.prog 11 #[v0, A, .agg #[vp, B, v1]] Y fun e W' => e = .returned (.bool res) ∧ Ext Y W'
/-- and the program's -/
abbrev ProgIdent (f rs : List RTerm) (l cs : List (List RTerm)) (ns : List Int) (res : Bool) : Prop := ∀ (Y : World) (vf vl vp vc vr : Value), Terms (Old Y) Y vf f → Polys (Old Y) Y vl l → Ints (Old Y) Y vp ns → Polys (Old Y) Y vc cs → Terms (Old Y) Y vr rs → Calls Tryz.prog 12 #[vf, vl, .agg #[vp, vc, vr]] Y fun e W' => e = .returned (.bool res) ∧ Ext Y W'

theorem both_ident {f rs : List RTerm} {l cs : List (List RTerm)} {ns : List Int} (g1 : (∀ p ∈ f :: l, big16 p = false) ∧ (f :: l).length ≤ 5) (g2 : (∀ p ∈ rs :: cs, big16 p = false) ∧ (rs :: cs).length ≤ 5)
    (hb : ∀ j, j < ns.length → ns.getD j 0 ≤ 3 ∨ 100 < ns.getD j 0) (o1 : ∀ p ∈ f :: l, okT p ∧ p = ofP (plainP p)) (o2 : ∀ p ∈ rs :: cs, okT p ∧ p = ofP (plainP p)) :
    ∃ res, DocIdent (plainP f) (plainP rs) (l.map plainP) (cs.map plainP) ns res ∧ ProgIdent f rs l cs ns res := by
  have sf := small16 (g1.1 f List.mem_cons_self)
  have sr := small16 (g2.1 rs List.mem_cons_self)
  have sl : smallL l := fun p hp => small16 (g1.1 p (List.mem_cons_of_mem _ hp))
  have sc : smallL cs := fun p hp => small16 (g2.1 p (List.mem_cons_of_mem _ hp))
  by_cases hs : ns.length = l.length ∧ cs.length = l.length
  · obtain ⟨j, hj, hg, hbad⟩ := first_bad ns.length hb
    rw [hs.1] at hj hbad
    have p1 : ∀ p ∈ f :: l, Fit 3 6 (plainP p) ∧ exB 4 (plainP p) := fun p hp => plain16 (o1 p hp).1 (g1.1 p hp)
    have p2 : ∀ p ∈ rs :: cs, Fit 3 6 (plainP p) ∧ exB 4 (plainP p) := fun p hp => plain16 (o2 p hp).1 (g2.1 p hp)
    have q1 := p1 f List.mem_cons_self
    have q2 := p2 rs List.mem_cons_self
    have ql : ∀ p ∈ l.map plainP, Fit 3 6 p ∧ exB 4 p := fun p hp => by
      obtain ⟨t, ht, rfl⟩ := List.mem_map.1 hp
      exact p1 t (List.mem_cons_of_mem _ ht)
    have qc : ∀ p ∈ cs.map plainP, Fit 3 6 p ∧ exB 4 p := fun p hp => by
      obtain ⟨t, ht, rfl⟩ := List.mem_map.1 hp
      exact p2 t (List.mem_cons_of_mem _ ht)
    have hl4 : (l.map plainP).length ≤ 4 := by rw [List.length_map]; have := g1.2; simp at this; omega
    have el : (l.map plainP).length = l.length := List.length_map _
    have ec : (cs.map plainP).length = (l.map plainP).length := by rw [List.length_map, List.length_map]; exact hs.2
    have hj2 : j ≤ (l.map plainP).length := by rw [el]; exact hj
    have st := id16_steps q1.1 q1.2 q2.1 q2.2 ql qc hl4 ec hj2 hg
    obtain ⟨r1, -, r3, -⟩ := id16_run q1.1 q1.2 q2.1 q2.2 ql qc hl4 ec hj2 hg j (Nat.le_refl _)
    have hj4 : j ≤ 4 := by omega
    have hp6 : 6 * 216 ^ j ≤ 1000000000000 := by
      have h1 : (216 : Nat) ^ j ≤ 216 ^ 4 := Nat.pow_le_pow_right (by decide) hj4
      have e : (216 : Nat) ^ 4 = 2176782336 := by decide
      omega
    refine ⟨_, fun Y v0 A vp B v1 h0 hA hp hB h1 => ref_identity (j := j) (xs := idXs (plainP f) (plainP rs) (l.map plainP) (cs.map plainP) ns) h0 hA hp hB h1 (by rw [el]; exact hs.1) ec hj2 rfl st (by rw [el]; exact hbad) r1 r3 (by omega) (by omega) hp6 (by omega), fun Y vf vl vp vc vr hf hl hp hc hr => ?_⟩
    have ml := map_plain (l := l) (fun p hp => (o1 p (List.mem_cons_of_mem _ hp)).2)
    have mc := map_plain (l := cs) (fun p hp => (o2 p (List.mem_cons_of_mem _ hp)).2)
    exact chain_identity (j := j) (xs := idXs (plainP f) (plainP rs) (l.map plainP) (cs.map plainP) ns) (W := Y) (f := plainP f) (r := plainP rs) (ls := l.map plainP) (cs := cs.map plainP) (by show Terms (Old Y) Y vf (ofP (plainP f)); rw [← (o1 f List.mem_cons_self).2]; exact hf) (by show Polys (Old Y) Y vl _; rw [ml]; exact hl) hp (by show Polys (Old Y) Y vc _; rw [mc]; exact hc) (by show Terms (Old Y) Y vr (ofP (plainP rs)); rw [← (o2 rs List.mem_cons_self).2]; exact hr)
      (by rw [el]; exact hs.1) ec q1.1 (by decide) q2.1 (by decide) (by rw [ml]; exact sl) (fun p h => (ql p h).1.can) (by rw [mc]; exact sc) (fun p h => (qc p h).1.can) hj2 rfl st (by rw [el]; exact hbad)
  · refine ⟨false, fun Y v0 A vp B v1 h0 hA hp hB h1 => ?_, fun Y vf vl vp vc vr hf hl hp hc hr => chain_identity_no hf hl hp hc hr sf sr sl sc ?_⟩
    · obtain ⟨_, _, rfl⟩ := h0.form
      obtain ⟨_, _, rfl⟩ := hA.form
      obtain ⟨_, _, rfl⟩ := hp.form
      obtain ⟨_, _, rfl⟩ := hB.form
      obtain ⟨_, _, rfl⟩ := h1.form
      exact ref_identity_no (by rw [List.length_map, List.length_map]; exact hs)
    · unfold shapeC
      by_cases h1 : ns.length = l.length
      · rw [decide_eq_false (p := cs.length = l.length) (fun h => hs ⟨h1, h⟩)]
        simp
      · rw [decide_eq_false h1]
        simp

/-- what is left behind the first one -/
theorem RPs.drop_one {S : Nat → Prop} {w : World} {b o n cap : Nat} {p : PZ} {l : List PZ} (h : RPs S w (.slice (some ⟨b, o, none⟩) n cap) (p :: l)) : RPs S w (.slice (some ⟨b, o + 1, none⟩) (n - 1) (cap - 1)) l := by
  obtain ⟨b', off, ⟨a', cap', h1, h2, h3, h4, h5⟩, hc⟩ := h
  obtain ⟨e1, rfl, rfl⟩ : some (⟨b, o, none⟩ : Addr) = a' ∧ n = (p :: l).length ∧ cap = cap' := by simpa using h1
  have e2 := h4 (by simp)
  rw [← e1] at e2
  obtain ⟨rfl, rfl⟩ : b = b' ∧ o = off := by simpa using e2
  refine ⟨b, o + 1, ⟨_, cap - 1, by simp, by simp at h2; omega, by omega, fun _ => rfl, fun _ => h5 (by simp)⟩, fun j q hj => ?_⟩
  have := hc (j + 1) q (by simpa using hj)
  rwa [show o + (j + 1) = o + 1 + j by omega] at this
theorem RPs.nothing {S : Nat → Prop} {w : World} {b o n cap : Nat} {p : PZ} {l : List PZ} (h : RPs S w (.slice (some ⟨b, o, none⟩) n cap) (p :: l)) (hc : cap = 1) (a : Option Addr) (c : Nat) (hcm : c ≤ 9223372036854775807) : RPs S w (.slice a 0 c) l := by
  obtain ⟨b', off, ⟨a', cap', h1, h2, h3, h4, h5⟩, -⟩ := h
  obtain ⟨-, rfl, rfl⟩ : some (⟨b, o, none⟩ : Addr) = a' ∧ n = (p :: l).length ∧ cap = cap' := by simpa using h1
  simp at h2
  obtain rfl : l = [] := List.length_eq_zero_iff.1 (by omega)
  exact ⟨0, 0, ⟨a, c, rfl, Nat.zero_le _, hcm, fun h => by simp at h, fun h => by simp at h⟩, fun j n hj => by simp at hj⟩
end Go.Proofs.YthdcaablomgboaaGreat

namespace Go.Proofs.YthdcaablomgboaaGreat
open Go.RowKit Go.Deep

/-- the cells of some polynomials -/
theorem Polys.src_all {S : Nat → Prop} {w : World} {A : Option Addr} {n cap : Nat} {l : List (List RTerm)} (h : Polys S w (.slice A n cap) l) : ∃ xs, SrcAt w A n 1 xs ∧ CellsL S w xs l := by
  obtain ⟨b, off, ⟨a', cap', h1, h2, h3, h4, h5⟩, hc⟩ := h
  obtain ⟨rfl, rfl, rfl⟩ : A = a' ∧ n = l.length ∧ cap = cap' := by simpa using h1
  obtain ⟨xs, hl, hx⟩ := list_of_lt (n := l.length) (p := fun j (vp : Value) => w.cell? ⟨b, off + j, none⟩ = some vp ∧ (∃ a n c, vp = .slice a n c) ∧ ∀ p, l[j]? = some p → Terms S w vp p) (fun j hj => by
    obtain ⟨p, hp⟩ := some_of_lt hj
    obtain ⟨vp, k1, k2⟩ := hc j p hp
    obtain ⟨a, c, e⟩ := k2.form
    exact ⟨vp, k1, ⟨a, _, c, e⟩, fun q hq => by rw [hp] at hq; cases hq; exact k2⟩)
  refine ⟨xs, ⟨by rw [hl, Nat.mul_one], fun u hu => ?_, fun h0 => ⟨_, h4 h0, fun j u hj => ?_⟩⟩, hl, fun j p hj => ?_⟩
  · obtain ⟨j, hj⟩ := List.getElem?_of_mem hu
    obtain ⟨-, ⟨a, n, c, rfl⟩, -⟩ := hx j u hj
    rfl
  · rw [add_off]
    exact (hx j u hj).1
  · obtain ⟨vp, hv⟩ := some_of_lt (l := xs) (j := j) (by rw [hl]; exact lt_of_some hj)
    exact ⟨vp, hv, (hx j vp hv).2.2 p hj⟩
section
variable {P : Program}
theorem wpList_append_src_g (w : World) {ops : Array Oper} {rest : List Oper} {o : Oper} {a : Act} {Q : Exit → Act → World → Prop} (hw : Region.wanted o (yielded ops a.tmps) = true) (s x : Operand) (t : TypeId)
    (ho : o.op = .call { callee := .builtin .append, args := #[s, x], argTypes := #[t, t] })
    (base : Nat) (e : TypeId) (i : TypeInfo) (z : Value) (size bytes : Nat) (ht : P.underlying t = some (.slice e)) (hi : P.info? e = some i) (hz : i.zero = some z)
    (hsize : i.size = size) (hby : i.bytes = bytes) (hzs : z.cells.size = size) (hsz : 0 < size)
    (v : Value) (n : Nat) (xs : List Value) (hs : a.eval s = v) (hown : w.ownsRow base e size v n xs)
    (A : Option Addr) (m c : Nat) (news : List Value) (hx : a.eval x = .slice A m c) (hsrc : SrcAt w A m size news)
    (h63 : n + m ≤ maxLen) (hbytes : (n + m) * bytes ≤ 140737488355328) (hbase : base ≤ w.heap.size)
    (h : ∀ v' w', w'.ownsRow base e size v' (n + m) (xs ++ news) → w.grownBy w' v.ownBlock → (v'.ownBlock = v.ownBlock ∨ v'.ownBlock = some w.heap.size) → wpList P ops Q rest (a.put o.dst v') w') : wpList P ops Q (o :: rest) a w := by
  obtain ⟨v', w', hrun, h2, h3, h4⟩ := run_append_src (P := P) w base t o.type e i z size bytes ht hi hz hsize hby hzs hsz v n xs hown A m c news hsrc h63 hbytes hbase
  refine wpList_step fun K hK => ?_
  rw [if_pos hw]
  unfold Oper.wp execOp
  simp only [ho, resolve, invoke, builtin, Sem.run_bind, Sem.run_pure, Result.andThen_ok, List.map_toArray, List.map_cons, List.map_nil, hs, hx, hrun]
  exact hK _ _ (h v' w' h2 h3 h4)
end
theorem wpList_append_cons {S : Nat → Prop} (W : World) {ops : Array Oper} {rest : List Oper} {o : Oper} {a : Act} {Q : Exit → Act → World → Prop} (hgd : Region.wanted o (yielded ops a.tmps) = true) (s x : Operand)
    (ho : o.op = .call { callee := .builtin .append, args := #[s, x], argTypes := #[24, 24] }) (vf : Value) (A : Option Addr) (m c : Nat) (f : List RTerm) (l : List (List RTerm))
    (hs : a.eval s = .slice (some ⟨W.heap.size, 0, none⟩) 1 1) (hx : a.eval x = .slice A m c) (hf : Terms S W vf f) (hl : Polys S W (.slice A m c) l) (hS : ∀ k, S k → k < W.heap.size) (hm : m ≤ 5864062014800)
    (h : ∀ v' w', Polys (Plus S W w') w' v' (f :: l) → Ext W w' → wpList Tryz.prog ops Q rest (a.put o.dst v') w') : wpList Tryz.prog ops Q (o :: rest) a (W.alloc (.cells #[vf] 23)) := by
  obtain ⟨i, hi, hz0, hz1, hz2⟩ := info_parts Tryz.infoPoly
  have hxa := Ext.alloc (Ext.refl W) (.cells #[vf] 23)
  obtain ⟨xs, hsrc, hc⟩ := (hl.to (Kept.ext hxa hS) (fun _ h => h)).src_all
  obtain ⟨af, cf, hvf⟩ := hf.form
  have hml : m = l.length := by
    obtain ⟨a', c', e⟩ := hl.form
    simpa using congrArg (fun v => match v with | Value.slice _ n _ => n | _ => 0) e
  refine wpList_append_src_g _ hgd s x 24 ho W.heap.size 23 i (.slice none 0 0) 1 24 Tryz.underlying24 hi hz0 hz1 hz2 rfl (by decide) _ 1 [vf] hs (World.ownsRow_lit (size := 1) W #[vf] 1 (Nat.le_refl _) (by decide) rfl) A m c xs hx hsrc (by unfold maxLen; omega) (by omega) (by rw [size_alloc]; omega) (fun v' w' k1 k2 _ => h v' w' ?_ ?_)
  · have hg : Ext W w' := own_grown0 hxa (World.ownsRow_lit (size := 1) W #[vf] 1 (Nat.le_refl _) (by decide) rfl) k2
    refine own_polys (l := f :: l) (by rw [List.length_cons, ← hml, Nat.add_comm]; exact k1) ⟨by rw [List.length_append, hc.1]; simp; omega, fun j p hj => ?_⟩ (fun k h1 h2 => .inr ⟨h1, h2⟩)
    cases j with
    | zero =>
      obtain rfl : f = p := by simpa using hj
      exact ⟨vf, rfl, hf.to (Kept.ext hg hS) (fun _ h => .inl h)⟩
    | succ j =>
      obtain ⟨vp, g1, -⟩ := hc.2 j p (by simpa using hj)
      have hl2 := hl
      obtain ⟨vp2, g3, g4⟩ := hc.2 j p (by simpa using hj)
      refine ⟨vp, by simpa using g1, ?_⟩
      rw [g3] at g1
      obtain rfl : vp2 = vp := by simpa using g1
      have hgx : Kept S (W.alloc (.cells #[vf] 23)) w' := fun k hk => (hg.block k (hS k hk)).trans (hxa.block k (hS k hk)).symm
      exact g4.to hgx (fun _ h => .inl h)
  · exact own_grown0 hxa (World.ownsRow_lit (size := 1) W #[vf] 1 (Nat.le_refl _) (by decide) rfl) k2
end Go.Proofs.YthdcaablomgboaaGreat

namespace Go.Proofs.YthdcaablomgboaaGreat
open Go.RowKit

set_option maxRecDepth 100000 in
set_option maxHeartbeats 8000000 in
theorem ref_plain16 {S : Nat → Prop} (v : Value) (ls : List (List RTerm)) (w : World) (h : Polys S w v ls) (hS : ∀ k, S k → k < w.heap.size) (hfit : ∀ ts ∈ ls, fitT ts) (hlen : ls.length ≤ 1000000) :
    Calls Tryz.prog 10 #[v] w fun e w' => ∃ v', e = .returned (.tuple #[v', .bool (ls.all mayT)]) ∧ (ls.all mayT = true → RPs (Plus S w w') w' v' (ls.map plainP)) ∧ Ext w w' := by
  have hnot : ∀ (x : Bool) (w : World), (Op.unary .not (.bool x)).run Tryz.prog w = .ok (.bool (!x)) w := fun _ _ => rfl
  have H := hid h
  have HF := hid hfit
  have HL := hid hlen
  have hl := h.len_le
  obtain ⟨a, cap, rfl⟩ := h.form
  clear h hfit hlen
  go_enter Tryz.func10, Tryz.ntmps10
  go_wp2
  go_loopw [4, 5] (fun o i wr => ∃ k xs, k ≤ ls.length ∧ i = .int .i64 (k : Nat) ∧ Ext w wr ∧ Hid (wr.ownsRow w.heap.size 35 1 o k xs) ∧ Hid (CellsP (Off S w wr o) wr xs ((ls.take k).map plainP)) ∧ Hid ((ls.take k).all mayT = true)) (fun _ i _ => ls.length - (intOf i).toNat)
  case atStart => exact ⟨0, [], Nat.zero_le _, rfl, Ext.refl _, hid (World.ownsRow_nil _ _ _ _), hid (CellsP.nil _ _), hid rfl⟩
  case round =>
    obtain ⟨k, xs, hk, rfl, hx, HW, HXS, HA⟩ := hrel
    have HX := hid hx
    by_cases hlt : k < ls.length
    · obtain ⟨t, ht⟩ := some_of_lt hlt
      obtain ⟨b, off, vp, rfl, -, hq1, hm1, hSb, h1, h2⟩ := H.out.cellAt ht
      have HT : Hid ((ls.take (k + 1)).map plainP = (ls.take k).map plainP ++ [plainP t]) := hid (by rw [List.take_add_one, ht, List.map_append]; rfl)
      have HFT := hid (HF.out t (List.mem_of_getElem? ht))
      have HTK : Hid (ls.take (k + 1) = ls.take k ++ [t]) := hid (by rw [List.take_add_one, ht]; rfl)
      have HTM := hid (List.mem_of_getElem? ht)
      have g1 := Ext.cell hx h1
      have C := rpoly_may (S := S) vp t wr (h2.ext hx hS) (lt_ext hS hx) HFT.out.1
      have HOK := hid h2.okT
      have H2 := hid h2
      obtain ⟨am, cm, rfl⟩ := h2.form
      generalize hr : mayT t = r at *
      have HR := hid hr
      have HC := hid C
      clear hx ht h1 h2 C hr
      cases r with
      | true =>
        have HPP := hid (plainP_yes HR.out)
        have HCAN := hid (mayT_can HR.out)
        go_wp2_with fail
        refine HC.out.mono ?_
        rintro e w1 ⟨rfl, hx1⟩
        have HX1 := hid (HX.out.trans hx1)
        have k1 := hx1.cell g1
        have HW1 := hid (own_ext HW.out hx1)
        have HXS1 := hid (cellsP_ext hS HX.out HXS.out hx1)
        have CO := hid (rpoly_of (S := S) _ t w1 (H2.out.ext HX1.out hS) (lt_ext hS HX1.out) HFT.out.1 HCAN.out.may (fun k _ => by rw [addP_take HCAN.out]; exact szP_take (szP_toP HOK.out HFT.out) k))
        clear hx1 g1
        go_wp2_with fail
        refine CO.out.mono ?_
        rintro e w2 ⟨v2, rfl, hp2, hx2⟩
        have HX2 := hid (HX1.out.trans hx2)
        have HW2 := hid (own_ext HW1.out hx2)
        have HXS2 := hid (cellsP_ext hS HX1.out HXS1.out hx2)
        have HP2 := hid (rts_off hS HX1.out HW1.out hx2 hp2)
        obtain ⟨a2, c2, rfl⟩ := hp2.form
        obtain ⟨n2, hn2⟩ : ∃ n, n = (normP (toP t)).length := ⟨_, rfl⟩
        rw [← hn2] at HP2 ⊢
        clear hx2 hp2 hn2
        go_wp2_with (at_builtin; refine wpList_append_new _ rfl (.tmp 18) (.tmp 24) 30 rfl w.heap.size 35 (.slice none 0 0) 1 24 Tryz.underlying30 Tryz.infoP rfl (by decide) _ k xs rfl HW2.out #[.slice a2 n2 c2] rfl (one_cell rfl) rfl (by have := HL.out; omega) (by decide) HX2.out.size ?_; intro v3 w3 hown hg hbk; have HW3 := hid hown; have HG3 := hid hg; have HBK := hid hbk; clear hown hg hbk)
        go_roundw
        case rel =>
          refine ⟨k + 1, xs ++ [.slice a2 n2 c2], by omega, by go_num, own_grown0 HX2.out HW2.out HG3.out, HW3, hid ?_, hid (by rw [HTK.out, List.all_append, HA.out]; simp [HR.out])⟩
          rw [HT.out, HPP.out, ← normP_of_can HCAN.out]
          exact cellsP_grown hS HX2.out (HXS2.out.snoc HP2.out) HG3.out HBK.out
        case measure => simp only [intOf]; omega
      | false =>
        have HNA : Hid (ls.all mayT = false) := hid (List.all_eq_false.2 ⟨t, HTM.out, by rw [HR.out]; exact Bool.false_ne_true⟩)
        go_wp2_with fail
        refine HC.out.mono ?_
        rintro e w1 ⟨rfl, hx1⟩
        have HX1 := hid (HX.out.trans hx1)
        clear hx1
        go_wp2
        all_goals
          go_ret2
          rw [HNA.out]
          exact ⟨_, rfl, fun h => (by cases h), HX1.out⟩
    · obtain rfl : k = ls.length := by omega
      have HE : Hid (ls.take ls.length = ls) := hid (List.take_length)
      have HAA : Hid (ls.all mayT = true) := hid (by have := HA.out; rwa [HE.out] at this)
      clear hx
      go_wp2
      go_ret2
      rw [HAA.out]
      refine ⟨_, rfl, fun _ => ?_, HX.out⟩
      have hc := HXS.out
      rw [HE.out] at hc
      refine own_rps (by rw [List.length_map]; exact HW.out) (hc.to (Kept.refl _ _) (fun _ h => h.1)) (fun k h1 h2 => .inr ⟨h1, h2⟩)
end Go.Proofs.YthdcaablomgboaaGreat

namespace Go.Proofs.YthdcaablomgboaaGreat
open Go.RowKit Go.Deep Go.ChangeShapes Go.WideShapes

section
variable {H : Type} {enc : TypeId × Value → H} {w : World} {base : Nat} {spare : Nat → Bool} {held : Bool}

def Light (t : TypeId) (d : DataW H) : Prop := ∀ k ∈ d.weights Tryz.prog t, k ≤ reachBytes
theorem weights_mem_all {e : TypeId} {ds : List (DataW H)} {d : DataW H} (hd : d ∈ ds) {k : Nat} (hk : k ∈ d.weights Tryz.prog e) : k ∈ DataW.weightsAll Tryz.prog e ds := by
  induction ds with
  | nil => simp at hd
  | cons y r ih =>
    rw [DataW.weightsAll, List.mem_append]
    rcases List.mem_cons.1 hd with rfl | hd
    · exact .inl hk
    · exact .inr (ih hd)

theorem open_slice_sized {t e : TypeId} {fuel sz : Nat} {v : Value} {x : DataW H × List MemPlace} (ht : Tryz.prog.underlying t = some (.slice e)) (hsz : Tryz.prog.cellsOf e = sz) (hpos : 0 < sz)
    (h : DataW.trod enc Tryz.prog w base spare held fuel t [v] = some x) (hL : Light t x.1) :
    ∃ (n b off fuel' : Nat), SliceAt (· < w.heap.size) v n b off ∧ n * Tryz.prog.bytesOf e ≤ reachBytes ∧ ∀ j, j < n → ∃ (cs : List Value) (y : DataW H × List MemPlace), cs.length = sz ∧ (∀ i, i < sz → w.cell? ⟨b, off + j * sz + i, none⟩ = cs[i]?) ∧ DataW.trod enc Tryz.prog w base spare held fuel' e cs = some y ∧ Light e y.1 := by
  rcases open_slice ht h with ⟨hcs, _⟩ | ⟨a, len, cap, m, fuel', D, Pl, hcs, hb, hl, hm, hmm, hxx, hx⟩
  · obtain rfl : v = .slice none 0 0 := by simpa using hcs
    exact ⟨0, 0, 0, 0, ⟨none, 0, rfl, Nat.le_refl _, Nat.zero_le _, fun h => absurd h (by omega), fun h => absurd h (by omega)⟩, by simp, fun j hj => absurd hj (by omega)⟩
  · obtain rfl : v = .slice (some a) len cap := by simpa using hcs
    rw [hsz] at hx
    have hlm : len ≤ m := by rw [hmm]; split <;> omega
    have hwt : x.1.weights Tryz.prog t = (((List.range len).map D).length + ((List.range (m - len)).map fun j => D (len + j)).length) * Tryz.prog.bytesOf e :: (DataW.weightsAll Tryz.prog e ((List.range len).map D) ++ DataW.weightsAll Tryz.prog e ((List.range (m - len)).map fun j => D (len + j))) := by
      rw [hxx]
      simp only [DataW.weights, ht]
    have hbytes : len * Tryz.prog.bytesOf e ≤ reachBytes := by
      have h1 := hL _ (by rw [hwt]; exact List.mem_cons_self)
      refine Nat.le_trans (Nat.mul_le_mul_right _ ?_) h1
      rw [List.length_map, List.length_range]
      omega
    have hD : ∀ j, j < len → Light e (D j) := fun j hj k hk => hL k (by
      rw [hwt]
      refine List.mem_cons_of_mem _ (List.mem_append_left _ (weights_mem_all (d := D j) ?_ hk))
      exact List.mem_map.2 ⟨j, List.mem_range.2 hj, rfl⟩)
    have key : ∀ j, j < len → ∃ (cs : List Value) (y : DataW H × List MemPlace), cs.length = sz ∧ (∀ i, i < sz → w.cell? ((a.add (j * sz)).add i) = cs[i]?) ∧ DataW.trod enc Tryz.prog w base spare held fuel' e cs = some y ∧ Light e y.1 := by
      intro j hj
      obtain ⟨cs, h1, h2⟩ := hx j (by omega)
      obtain ⟨_, h3, h4⟩ := World.cells?_some h1
      exact ⟨cs, _, h3, h4, h2, hD j hj⟩
    by_cases h0 : 0 < len
    · have hsp : a.spot = none := by
        obtain ⟨cs, _, h3, h4, _⟩ := key 0 h0
        have h5 := h4 0 hpos
        have e0 : (a.add (0 * sz)).add 0 = a := by simp [Addr.add]
        rw [e0, List.getElem?_eq_getElem (by omega)] at h5
        unfold World.cell? at h5
        split at h5
        · cases hs : a.spot with
          | none => rfl
          | some z => simp [hs] at h5
        · exact absurd h5 (by simp)
      obtain ⟨b, off, spot⟩ := a
      obtain rfl : spot = none := hsp
      have add_eq : ∀ j i, ((⟨b, off, none⟩ : Addr).add (j * sz)).add i = ⟨b, off + j * sz + i, none⟩ := by
        intro j i
        unfold Addr.add
        by_cases h1 : j * sz = 0 <;> by_cases h2 : i = 0 <;> simp [h1, h2]
      refine ⟨len, b, off, fuel', ⟨_, cap, rfl, hl, hm, fun _ => rfl, fun _ => ?_⟩, hbytes, fun j hj => ?_⟩
      · obtain ⟨cs, _, h3, h4, _⟩ := key 0 h0
        have h5 := h4 0 hpos
        rw [add_eq, List.getElem?_eq_getElem (by omega)] at h5
        exact lt_of_cell h5
      · obtain ⟨cs, y, h3, h4, h5, h6⟩ := key j hj
        exact ⟨cs, y, h3, fun i hi => by rw [← add_eq]; exact h4 i hi, h5, h6⟩
    · exact ⟨len, 0, 0, fuel', ⟨_, cap, rfl, hl, hm, fun h => absurd h h0, fun h => absurd h h0⟩, hbytes, fun j hj => absurd hj (by omega)⟩

end
end Go.Proofs.YthdcaablomgboaaGreat

namespace Go.Proofs.YthdcaablomgboaaGreat
open Go.RowKit Go.Deep Go.ChangeShapes Go.WideShapes Go.ChangeAt Go.Joins

section
variable {H : Type} {enc : TypeId × Value → H} {w : World} {base : Nat} {spare : Nat → Bool} {held : Bool}
theorem Tryz.bytes_poly : Tryz.prog.bytesOf 23 = 24 := by kernel_rfl
theorem Tryz.cells_poly1 : Tryz.prog.cellsOf 23 = 1 := by kernel_rfl
theorem open_polys_sized {fuel : Nat} {v : Value} {x : DataW H × List MemPlace} (h : DataW.trod enc Tryz.prog w base spare held fuel 24 [v] = some x) (hL : Light 24 x.1) : ∃ ls, Polys (· < w.heap.size) w v ls ∧ ls.length ≤ 5864062014800 := by
  obtain ⟨n, b, off, f', hs, hn, -⟩ := open_slice_sized Tryz.underlying24 Tryz.cells_poly1 (by omega) h hL
  obtain ⟨ls, hz⟩ := open_polys h
  refine ⟨ls, hz, ?_⟩
  obtain ⟨a, cap, e1, -⟩ := hs
  obtain ⟨a', cap', e2⟩ := hz.form
  have e : n = ls.length := by
    rw [e1] at e2
    simpa using congrArg (fun v => match v with | Value.slice _ n _ => n | _ => 0) e2
  rw [Tryz.bytes_poly] at hn
  rw [← e]
  unfold reachBytes at hn
  omega
theorem light_three {t : TypeId} {f0 f1 f2 : Field} {d0 d1 d2 : DataW H} (ht : Tryz.prog.underlying t = some (.struct #[f0, f1, f2])) (h : Light t (.agg [d0, d1, d2])) : Light f0.type d0 ∧ Light f1.type d1 ∧ Light f2.type d2 := by
  have hw : (DataW.agg [d0, d1, d2]).weights Tryz.prog t = d0.weights Tryz.prog f0.type ++ (d1.weights Tryz.prog f1.type ++ (d2.weights Tryz.prog f2.type ++ [])) := by
    simp only [DataW.weights, ht]
    rfl
  refine ⟨fun k hk => h k ?_, fun k hk => h k ?_, fun k hk => h k ?_⟩
  · rw [hw]; exact List.mem_append_left _ hk
  · rw [hw]; exact List.mem_append_right _ (List.mem_append_left _ hk)
  · rw [hw]; exact List.mem_append_right _ (List.mem_append_right _ (List.mem_append_left _ hk))
end
section
variable {H : Type} {enc : TypeId × Value → H} {W : World} {base b0 : Nat} {sp : Nat → Bool} {held : Bool}
set_option maxRecDepth 100000 in
theorem division_arg_sized {v : Value} {d : DataW H} {p : List MemPlace} (hv : Value.okWide Tryz.prog W .any base 27 v) (h : DataW.Trod enc Tryz.prog W b0 sp held 27 v d p) (hL : Light 27 d) :
    ∃ vp vc vr ns cs rs, v = .agg #[vp, vc, vr] ∧ Ints (· < W.heap.size) W vp ns ∧ Polys (· < W.heap.size) W vc cs ∧ Terms (· < W.heap.size) W vr rs ∧ cs.length ≤ 5864062014800 := by
  obtain ⟨cs, rfl, hsz⟩ := okWide_struct Tryz.underlying27 hv
  obtain ⟨c0, c1, c2, rfl⟩ := array3 (hsz.trans Tryz.cells_division)
  obtain ⟨fuel, hf⟩ := h
  obtain ⟨y0, y1, y2, n, e, _, h0, h1, h2⟩ := trod_struct3 Tryz.underlying27 hf
  have hL' : Light 27 (DataW.agg [y0.1, y1.1, y2.1]) := by
    have e' : d = .agg [y0.1, y1.1, y2.1] := by first | exact e | exact congrArg Prod.fst e | simpa using e
    rw [← e']
    exact hL
  obtain ⟨-, l1, -⟩ := light_three Tryz.underlying27 hL'
  simp [Tryz.cells_ints, Tryz.cells_polys, Tryz.cells_poly, Value.cells] at h0 h1 h2
  obtain ⟨ns, hns⟩ := open_ints h0
  obtain ⟨cs, hcs, hlen⟩ := open_polys_sized h1 l1
  obtain ⟨rs, hrs⟩ := open_terms h2
  exact ⟨c0, c1, c2, ns, cs, rs, rfl, hns, hcs, hrs, hlen⟩
end
end Go.Proofs.YthdcaablomgboaaGreat

namespace Go.Proofs.YthdcaablomgboaaGreat
open Go.RowKit Go.Deep

theorem RMV.set {W : World} {o : Option Nat} {s : MSt} {bd : Nat} (h : RMV W o s) (hob : ∀ b, o = some b → b ≠ bd) {a : Addr} (ha : a.block = bd) (u : Value) : RMV (W.setCell a u) o s := fun b hb => by
  refine ⟨(h b hb).1.grown (r := some bd) (gb_setCell (gb_refl W (some bd)) ha u) (fun e => hob b hb (Option.some.inj e)), (h b hb).2⟩

/-- given blocks below one's own ones, or such as are newer than all own ones -/
structure Apart (S : Nat → Prop) (o : Option Nat) (br hi : Nat) (C : World) : Prop where
  hS : ∀ k, S k → k < br
  ho : ∀ b, o = some b → b < br ∧ ¬ S b
  hb : br ≤ hi
  hi : hi ≤ C.heap.size
section
variable {S : Nat → Prop} {o : Option Nat} {br hi : Nat} {C Y Y' : World} {v : Value} {p : PZ} {m : Nat} {V : Nat → Value} {cs : List PZ}
theorem Apart.lt (A : Apart S o br hi C) : ∀ k, S k → k < C.heap.size := fun k h => by have := A.hS k h; have := A.hb; have := A.hi; omega
theorem Apart.free (A : Apart S o br hi C) : ∀ k, Plus S C Y k → some k ≠ o ∧ ¬ (br ≤ k ∧ k < hi) := fun k hk => by
  rcases hk with h | h
  · refine ⟨fun e => (A.ho k e.symm).2 h, fun e => by have := A.hS k h; omega⟩
  · refine ⟨fun e => by have h1 := (A.ho k e.symm).1; have := A.hb; have := A.hi; have := h.1; omega, fun e => by have := A.hi; have := h.1; omega⟩
theorem Apart.now (A : Apart S o br hi C) (hz : C.heap.size ≤ Y.heap.size) : ∀ k, Plus S C Y k → k < Y.heap.size := rq_lt A.lt hz
theorem kept_ap (A : Apart S o br hi C) (hz : C.heap.size ≤ Y.heap.size) (g : Gx o br hi Y Y') : Kept (Plus S C Y) Y Y' := fun k hk => g.block k (A.now hz k hk) (A.free k hk).1 (A.free k hk).2
theorem plus_more (g : Y.heap.size ≤ Y'.heap.size) : ∀ k, Plus S C Y k → Plus S C Y' k := fun k hk => by
  rcases hk with h | h
  · exact .inl h
  · exact .inr ⟨h.1, Nat.lt_of_lt_of_le h.2 g⟩
theorem RQ.gx (h : RQ S C Y v p) (A : Apart S o br hi C) (hz : C.heap.size ≤ Y.heap.size) (g : Gx o br hi Y Y') : RQ S C Y' v p := h.to (kept_ap A hz g) (plus_more g.size)
/-- the cofactors in memory -/
def CofR (S : Nat → Prop) (C Y : World) (m : Nat) (V : Nat → Value) (cs : List PZ) : Prop := cs.length = m ∧ ∀ i, i < m → RQ S C Y (V i) (cs.getD i [])
theorem CofR.form (h : CofR S C Y m V cs) : FormV m V := fun i hi => by obtain ⟨a, c, e⟩ := (h.2 i hi).form; exact ⟨a, _, c, e⟩
theorem CofR.gx (h : CofR S C Y m V cs) (A : Apart S o br hi C) (hz : C.heap.size ≤ Y.heap.size) (g : Gx o br hi Y Y') : CofR S C Y' m V cs := ⟨h.1, fun i k => RQ.gx (h.2 i k) A hz g⟩
theorem CofR.set (h : CofR S C Y m V cs) {k : Nat} {x : Value} {p : PZ} (hk : k < m) (hx : RQ S C Y x p) : CofR S C Y m (setV V k x) (cs.set k p) := by
  refine ⟨by rw [List.length_set]; exact h.1, fun i hi => ?_⟩
  unfold setV
  simp only [List.getD_eq_getElem?_getD, List.getElem?_set]
  by_cases e : i = k
  · subst e
    rw [if_pos rfl, if_pos rfl, if_pos (by rw [h.1]; exact hk)]
    exact hx
  · rw [if_neg e, if_neg (fun h => e h.symm), ← List.getD_eq_getElem?_getD]
    exact h.2 i hi
end

end Go.Proofs.YthdcaablomgboaaGreat

namespace Go.Proofs.YthdcaablomgboaaGreat
open Go.RowKit

end Go.Proofs.YthdcaablomgboaaGreat

namespace Go.Proofs.YthdcaablomgboaaGreat
open Go.RowKit

end Go.Proofs.YthdcaablomgboaaGreat

namespace Go.Proofs.YthdcaablomgboaaGreat
open Go.RowKit

theorem RPs.nilv (S : Nat → Prop) (w : World) (a : Option Addr) (cap : Nat) (h : cap ≤ 9223372036854775807) : RPs S w (.slice a 0 cap) [] :=
  ⟨0, 0, ⟨a, cap, rfl, Nat.zero_le _, h, fun h => absurd h (Nat.lt_irrefl 0), fun h => absurd h (Nat.lt_irrefl 0)⟩, fun j t hj => by simp at hj⟩
theorem CellsP.append {S : Nat → Prop} {w : World} {xs ys : List Value} {l m : List PZ} (h : CellsP S w xs l) (h' : CellsP S w ys m) : CellsP S w (xs ++ ys) (l ++ m) := by
  refine ⟨by simp [h.1, h'.1], fun j q hj => ?_⟩
  by_cases hlt : j < l.length
  · rw [List.getElem?_append_left hlt] at hj
    rw [List.getElem?_append_left (by rw [h.1]; exact hlt)]
    exact h.2 j q hj
  · rw [List.getElem?_append_right (by omega)] at hj
    rw [List.getElem?_append_right (by rw [h.1]; omega), h.1]
    exact h'.2 _ q hj
end Go.Proofs.YthdcaablomgboaaGreat

namespace Go.Proofs.YthdcaablomgboaaGreat
open Go.RowKit Go.Deep

section
variable {W C Y : World} {S : Nat → Prop} {br hi bd bp bq m : Nat} {a b c u0 u1 u2 vr : Value} {o : Option Nat} {s : MSt} {ns : List Int} {V : Nat → Value} {cs : List PZ} {r : PZ}
end

end Go.Proofs.YthdcaablomgboaaGreat

namespace Go.Proofs.YthdcaablomgboaaGreat
open Go.RowKit

end Go.Proofs.YthdcaablomgboaaGreat

namespace Go.Proofs.YthdcaablomgboaaGreat

def nrm : PZ → Nat
  | [] => 0
  | t :: r => t.1.natAbs + nrm r
theorem nrm_mem {p : PZ} {t : Int × Mono} (h : t ∈ p) : t.1.natAbs ≤ nrm p := by
  induction p with
  | nil => simp at h
  | cons u r ih =>
    rw [nrm]
    rcases List.mem_cons.1 h with rfl | h
    · omega
    · have := ih h; omega
theorem nrm_fit {p : PZ} {k n : Nat} (hc : canP p) (h : nrm p < B32 ^ k) (hn : p.length ≤ n) : Fit k n p := ⟨hc, fun _ ht => Nat.lt_of_le_of_lt (nrm_mem ht) h, hn⟩
section
variable {g h q r : PZ} {v d : Int} {x : PZ × PZ} {keep : Bool} {G Q R : Nat}
end
end Go.Proofs.YthdcaablomgboaaGreat

namespace Go.Proofs.YthdcaablomgboaaGreat

/-- a rest behind so many steps -/
structure InR (g N E : Nat) (s : MSt) (r : PZ) : Prop where
  ok : s.Ok
  fu : s.fu ≤ (N : Int)
  can : canP r
  nr : nrm r ≤ 2 ^ ((g + 1) * s.st.toNat + g)
  len : r.length ≤ 100000
  ex : exB ((E : Int) * (s.st + 1)) r
/-- a quotient, j steps old -/
structure InQ (g E j : Nat) (s : MSt) (q : PZ) : Prop where
  hj : (j : Int) ≤ s.st
  can : canP q
  nq : nrm q ≤ j * 2 ^ ((g + 1) * s.st.toNat)
  len : q.length ≤ 100000
  ex : exB ((E : Int) * (s.st + 1)) q
/-- what the parameters are to each other -/
structure Lim (g N E e B : Nat) : Prop where
  cut : (g + 1) * N + e < 1472
  steps : N ≤ 2 ^ e
  small : N ≤ 100
  exps : E * (N + 1) ≤ 5000
  lim : (g + 1) * N + g + e < 32 * B
  hB : B ≤ 200
  he : e ≤ 100
  hg : g ≤ 640

theorem b32_two (k : Nat) : B32 ^ k = 2 ^ (32 * k) := by rw [Nat.pow_mul, show (2 : Nat) ^ 32 = B32 by decide]
theorem pow2_lt {a b : Nat} (h : a < b) : 2 ^ a < 2 ^ b := Nat.pow_lt_pow_right (by decide) h
theorem pow2_le {a b : Nat} (h : a ≤ b) : 2 ^ a ≤ 2 ^ b := Nat.pow_le_pow_right (by decide) h

section
variable {g N E e B j : Nat} {s s' : MSt} {p q r : PZ}
theorem InR.st (h : InR g N E s r) : 0 ≤ s.st ∧ s.st ≤ (N : Int) := ⟨h.ok.s0, Int.le_trans h.ok.s1 h.fu⟩
theorem st_le (L : Lim g N E e B) (h : s.st.toNat ≤ N) : (g + 1) * s.st.toNat ≤ (g + 1) * N := Nat.mul_le_mul_left _ h
theorem InR.fit (L : Lim g N E e B) (h : InR g N E s r) : Fit B 100000 r := nrm_fit h.can (by
  rw [b32_two]
  refine Nat.lt_of_le_of_lt h.nr (pow2_lt ?_)
  have h1 := h.st
  have h2 := st_le L (s := s) (by omega)
  have h3 := L.lim
  omega) h.len
theorem InQ.two (L : Lim g N E e B) (h : InQ g E j s q) (hN : s.st ≤ (N : Int)) : nrm q ≤ 2 ^ ((g + 1) * s.st.toNat + e) := by
  rw [Nat.add_comm ((g + 1) * s.st.toNat) e, Nat.pow_add]
  refine Nat.le_trans h.nq (Nat.mul_le_mul_right _ (Nat.le_trans ?_ L.steps))
  have := h.hj
  omega
theorem InQ.fit (L : Lim g N E e B) (h : InQ g E j s q) (h0 : 0 ≤ s.st) (hN : s.st ≤ (N : Int)) : Fit B 100000 q := nrm_fit h.can (by
  rw [b32_two]
  refine Nat.lt_of_le_of_lt (h.two L hN) (pow2_lt ?_)
  have h2 := st_le L (s := s) (by omega)
  have h3 := L.lim
  omega) h.len
/-- a cofactor behind so many steps -/
structure InC (g E e : Nat) (st : Int) (c : PZ) : Prop where
  can : canP c
  nc : nrm c ≤ 2 ^ ((g + 1) * st.toNat + e)
  len : c.length ≤ 100000
  ex : exB ((E : Int) * (st + 1)) c
theorem InC.later {st st' : Int} {c : PZ} (h : InC g E e st c) (h1 : st ≤ st') : InC g E e st' c :=
  ⟨h.can, Nat.le_trans h.nc (pow2_le (by have := Nat.mul_le_mul_left (g + 1) (show st.toNat ≤ st'.toNat by omega); omega)), h.len, h.ex.le (Int.mul_le_mul_of_nonneg_left (by omega) (by omega))⟩
theorem InQ.c (L : Lim g N E e B) (h : InQ g E j s q) (hN : s.st ≤ (N : Int)) : InC g E e s.st q := ⟨h.can, h.two L hN, h.len, h.ex⟩
/-- one of a chain -/
structure ChP (g E A T : Nat) (p : PZ) : Prop where
  fit : Fit A T p
  np : nrm p ≤ 2 ^ g
  ex : exB (E : Int) p
  lead : 0 < leadP p
theorem ChP.range {A T : Nat} (h : ChP g E A T p) : 1 ≤ leadP p ∧ leadP p ≤ 200 := ⟨h.lead, (leadP_range h.fit.can).2⟩
end
end Go.Proofs.YthdcaablomgboaaGreat

namespace Go.Proofs.YthdcaablomgboaaGreat
open Go.RowKit

end Go.Proofs.YthdcaablomgboaaGreat

namespace Go.Proofs.YthdcaablomgboaaGreat
open Go.RowKit

end Go.Proofs.YthdcaablomgboaaGreat

namespace Go.Proofs.YthdcaablomgboaaGreat
end Go.Proofs.YthdcaablomgboaaGreat
