/- The stable sort in place, at polynomials: blocks of twenty, then merges. Some polynomials by rising ranks. Coefficients of a polynomial, and a polynomial built out of them: the program's answers. A polynomial built out of its coefficients: the program's answer. The program's Build and Coefficients where there is nothing to build, nothing to tell. The document: the other sign, the difference. The document: a monomial without a variable. The document: a variable's power, coefficient, initial, tail. The document: tail and derivative. The document: the derivative. The document: a polynomial built out of its coefficients. The document: all coefficients by a variable. The coefficient by a variable that is none: the program's answer. -/
import Derived.Test.YthplgldclilccaaGreatSet8
namespace Go.Proofs.YthplgldclilccaaGreat
open Go.RowKit Go.Sort

section
variable {α : Type} [Inhabited α] {pc : α → PCell} {w : World} {b o : Nat} {cf : α → α → Int} {le : α → α → Bool}

theorem insertion_p' {cap l : Nat} {za zb : Int} {cur : List α} (P X T : List α) (W : World) (hc : CmpP 47 pc cf w b) (hcl : CmpLe cf le) (hcur : cur = P ++ X ++ T) (hl : l = cur.length) (hza : za = P.length) (hzb : zb = P.length + X.length) (h : SortAt (encP pc) 1 w b o cur W) (hcap : l ≤ cap) (hcap2 : l ≤ 1000000000000) :
    Calls Tryz.prog 129 #[.slice (some ⟨b, o, none⟩) l cap, .int .i64 za, .int .i64 zb, .func (.func 47) #[] #[]] W
      fun e w' => e = .returned (.tuple #[]) ∧ SortAt (encP pc) 1 w b o (P ++ sortL le X ++ T) w' := by
  subst hcur hl hza
  obtain rfl : zb = ((P.length + X.length : Nat) : Int) := by rw [hzb]; omega
  exact insertion_p cap P X T W hc hcl h hcap hcap2
theorem sym_merge_p' (hc : CmpP 47 pc cf w b) (hcl : CmpLe cf le) {cap l : Nat} (hcap2 : l ≤ 1000000000000) {za zm ze : Int} {cur : List α} (P A B T : List α) (W : World) (hA0 : 0 < A.length) (hB0 : 0 < B.length) (hA : SortedL le A) (hB : SortedL le B) (hcur : cur = P ++ A ++ B ++ T) (hl : l = cur.length) (hza : za = P.length) (hzm : zm = P.length + A.length) (hze : ze = P.length + A.length + B.length)
    (h : SortAt (encP pc) 1 w b o cur W) (hcap : l ≤ cap) :
      Calls Tryz.prog 130 #[.slice (some ⟨b, o, none⟩) l cap, .int .i64 za, .int .i64 zm, .int .i64 ze, .func (.func 47) #[] #[]] W
        fun r w' => r = .returned (.tuple #[]) ∧ SortAt (encP pc) 1 w b o (P ++ mergeL le A B ++ T) w' := by
  subst hza
  obtain rfl : zm = ((P.length + A.length : Nat) : Int) := by rw [hzm]; omega
  obtain rfl : ze = ((P.length + A.length + B.length : Nat) : Int) := by rw [hze]; omega
  exact sym_merge_p hc hcl _ P A B T cur W l _ _ _ (Nat.lt_succ_self _) hA0 hB0 hA hB hcur hl rfl rfl rfl h hcap hcap2

set_option maxRecDepth 100000 in
set_option maxHeartbeats 8000000 in
theorem stable_p {cap n : Nat} (L : List α) (W : World) (hc : CmpP 47 pc cf w b) (hcl : CmpLe cf le) (hl : n = L.length) (h : SortAt (encP pc) 1 w b o L W) (hcap : n ≤ cap) (hcap2 : n ≤ 1000000000000) :
    Calls Tryz.prog 98 #[.slice (some ⟨b, o, none⟩) n cap, .int .i64 n, .func (.func 47) #[] #[]] W
      fun e w' => e = .returned (.tuple #[]) ∧ SortAt (encP pc) 1 w b o (sortL le L) w' := by
  have H := hid h
  have HC := hid hc
  have HL := hid hcl
  have HN := hid hl
  clear h hc hcl hl
  go_enter Tryz.func98, Tryz.ntmps98
  go_wp2
  go_loopw [7, 8] (fun va vb wr => ∃ (a c : Nat) (S O R : List α), va = .int .i64 a ∧ vb = .int .i64 c ∧ a ≤ n ∧ Hid (c = a + 20) ∧ c ≤ n + 20 ∧ Hid (a = O.length) ∧ Hid (L = O ++ R) ∧ Hid (Full le 20 S O) ∧ SortAt (encP pc) 1 w b o (S ++ R) wr) (fun va vb _ => n - (intOf va).toNat)
  case atStart => exact ⟨0, 20, [], [], L, rfl, rfl, by omega, rfl, by omega, rfl, rfl, .nil, H.out⟩
  case round =>
    obtain ⟨a, c, S, O, R, rfl, rfl, han, HCA, hcn, HA, HLL, HF, hs⟩ := hrel
    have HS := hid hs
    clear hs
    have hn : n = O.length + R.length := by have := HN.out; rw [HLL.out] at this; simpa using this
    have hcl : n = (S ++ R).length := by rw [hn]; simp [HF.out.len]
    have HCL := hid hcl
    have HNN := hid hn
    clear hn hcl
    by_cases hlt : c ≤ n
    · obtain ⟨X, R', hX, hX20⟩ : ∃ X R', R = X ++ R' ∧ X.length = 20 := ⟨R.take 20, R.drop 20, (List.take_append_drop _ _).symm, by have := HNN.out; have := HA.out; have := HCA.out; rw [List.length_take]; omega⟩
      subst hX
      have HX := hid hX20
      have C := hid (insertion_p' (cap := cap) (l := n) (za := (a : Int)) (zb := (c : Int)) S X R' wr HC.out HL.out (by simp) HCL.out (by rw [HF.out.len]; have := HA.out; omega) (by rw [HF.out.len]; have := HA.out; have := HCA.out; omega) HS.out hcap hcap2)
      clear hX20
      go_wp2_with fail
      with_reducible refine C.out.mono ?_
      rintro e w2 ⟨rfl, hs2⟩
      have HS2 := hid hs2
      clear hs2
      go_wp2
      go_roundw
      case rel =>
        refine ⟨c, c + 20, S ++ sortL le X, O ++ X, R', rfl, by go_num, hlt, rfl, by omega, ?_, ?_, ?_, ?_⟩
        · show _ = _; have := HA.out; have := HX.out; have := HCA.out; simp; omega
        · show _ = _; rw [HLL.out]; simp
        · exact HF.out.snoc HX.out
        · exact HS2.out
      case measure => have := HCA.out; simp only [intOf]; omega
    · have C := hid (insertion_p' (cap := cap) (l := n) (za := (a : Int)) (zb := (n : Int)) S R [] wr HC.out HL.out (by simp) HCL.out (by rw [HF.out.len]; have := HA.out; omega) (by rw [HF.out.len]; have := HNN.out; omega) HS.out hcap hcap2)
      go_wp2_with fail
      with_reducible refine C.out.mono ?_
      rintro e w2 ⟨rfl, hs2⟩
      have HS2 := hid hs2
      have HB : Hid (Blk le 20 (S ++ sortL le R) L) := hid (by
        rw [HLL.out]
        exact HF.out.blk (.of_sort (by have := HNN.out; have := HA.out; have := HCA.out; omega)))
      clear hs2
      go_wp2
      go_loopw [6, 7, 8, 9] (fun vs va vb vm wr => ∃ (s : Nat) (za zb : Int) (cur : List α), vs = .int .i64 s ∧ va = .int .i64 za ∧ vb = .int .i64 zb ∧ 20 ≤ s ∧ s ≤ n + n + 20 ∧ Hid (Blk le s cur L) ∧ SortAt (encP pc) 1 w b o cur wr) (fun vs _ _ _ _ => n - (intOf vs).toNat)
      case atStart => exact ⟨20, a, c, _, rfl, rfl, rfl, by omega, by omega, HB, by have := HS2.out; simpa using this⟩
      case round =>
        clear HB HS2 HS HF HLL HCL HNN HCA HA hlt hcn han
        obtain ⟨s, za, zb, cur, rfl, rfl, rfl, hs20, hsn, HB, hs⟩ := hrel
        have HS := hid hs
        clear hs
        by_cases hlt : s < n
        · have HCN : Hid (n = cur.length) := hid (by rw [HN.out, HB.out.len])
          go_wp2
          go_loopw [7, 8] (fun va vb wr => ∃ (a c : Nat) (S O R O2 : List α), va = .int .i64 a ∧ vb = .int .i64 c ∧ a ≤ n ∧ Hid (c = a + (s + s)) ∧ c ≤ n + s + s ∧ Hid (a = O.length) ∧ Hid (L = O ++ O2) ∧ Hid (Full le (s + s) S O) ∧ Hid (Blk le s R O2) ∧ SortAt (encP pc) 1 w b o (S ++ R) wr) (fun va vb _ => n - (intOf va).toNat)
          case atStart => exact ⟨0, s + s, [], [], cur, L, rfl, by congr 1; omega, by omega, by show _ = _; omega, by omega, rfl, rfl, .nil, HB, HS.out⟩
          case round =>
            clear HCN HS HB
            obtain ⟨a, c, S, O, R, O2, rfl, rfl, han, HCA, hcn, HA, HLL, HF, HB, hs⟩ := hrel
            have HS := hid hs
            clear hs
            have hn : n = O.length + O2.length := by have := HN.out; rw [HLL.out] at this; simpa using this
            have hcl : n = (S ++ R).length := by rw [hn]; simp [HF.out.len, HB.out.len]
            have HCL := hid hcl
            have HNN := hid hn
            clear hn hcl
            by_cases hlt : c ≤ n
            · obtain ⟨X, Y, R', O', hR, hO, hX, hY, hB⟩ := HB.out.two (by omega) (by rw [HB.out.len]; have := HNN.out; have := HA.out; have := HCA.out; omega)
              have HX := hid (And.intro hX hY)
              have HO := hid hO
              have HB2 := hid hB
              have C := hid (sym_merge_p' HC.out HL.out (cap := cap) (l := n) hcap2 (za := (a : Int)) (zm := (a : Int) + (s : Int)) (ze := (c : Int)) (cur := S ++ R) S (sortL le X) (sortL le Y) R' wr (by rw [sortL_len]; omega) (by rw [sortL_len]; omega) (sortL_sorted HL.out.total X) (sortL_sorted HL.out.total Y) (by rw [hR]; simp) HCL.out (by rw [HF.out.len]; have := HA.out; omega) (by rw [HF.out.len, sortL_len]; have := HA.out; omega) (by rw [HF.out.len, sortL_len, sortL_len]; have := HA.out; have := HCA.out; omega) HS.out hcap)
              clear hR hO hX hY hB
              go_wp2_with fail
              with_reducible refine C.out.mono ?_
              rintro e w2 ⟨rfl, hs2⟩
              have HS2 := hid hs2
              clear hs2
              go_wp2
              go_roundw
              case rel =>
                refine ⟨c, c + (s + s), S ++ sortL le (X ++ Y), O ++ (X ++ Y), R', O', rfl, by congr 1; omega, hlt, rfl, by omega, ?_, ?_, ?_, HB2, ?_⟩
                · show _ = _; have := HA.out; have := HX.out; have := HCA.out; simp; omega
                · show _ = _; rw [HLL.out, HO.out]; simp
                · exact HF.out.snoc (by have := HX.out; simp; omega)
                · rw [sortL_append HL.out.total]
                  exact HS2.out
              case measure => have := HCA.out; simp only [intOf]; omega
            · by_cases hm : a + s < n
              · obtain ⟨X, Y, hR, hO, hX, hY⟩ := HB.out.part (by omega) (by rw [HB.out.len]; have := HNN.out; have := HA.out; omega) (by rw [HB.out.len]; have := HNN.out; have := HA.out; have := HCA.out; omega)
                have C := hid (sym_merge_p' HC.out HL.out (cap := cap) (l := n) hcap2 (za := (a : Int)) (zm := (a : Int) + (s : Int)) (ze := (n : Int)) (cur := S ++ R) S (sortL le X) (sortL le Y) [] wr (by rw [sortL_len]; omega) (by rw [sortL_len]; omega) (sortL_sorted HL.out.total X) (sortL_sorted HL.out.total Y) (by rw [hR]; simp) HCL.out (by rw [HF.out.len]; have := HA.out; omega) (by rw [HF.out.len, sortL_len]; have := HA.out; omega) (by rw [HF.out.len, sortL_len, sortL_len]; have h1 := HNN.out; rw [hO] at h1; simp at h1; omega) HS.out hcap)
                have HBB : Hid (Blk le (s + s) (S ++ mergeL le (sortL le X) (sortL le Y)) L) := hid (by
                  rw [HLL.out, hO, ← sortL_append HL.out.total]
                  refine HF.out.blk (.of_sort ?_)
                  have h1 := HNN.out
                  have h2 := HA.out
                  have h3 := HCA.out
                  rw [hO] at h1
                  omega)
                clear hR hO hX hY
                have q1 : (a : Int) + (s : Int) < (n : Int) := by omega
                go_wp2_with fail
                with_reducible refine C.out.mono ?_
                rintro e w2 ⟨rfl, hs2⟩
                have HS2 := hid hs2
                clear hs2
                go_wp2
                go_roundw
                case rel => exact ⟨s + s, _, _, _, by congr 1; omega, rfl, rfl, by omega, by omega, HBB, by have := HS2.out; simpa using this⟩
                case measure => simp only [intOf]; omega
              · have HBB : Hid (Blk le (s + s) (S ++ R) L) := hid (by
                  rw [HB.out.one (by rw [HB.out.len]; have := HNN.out; have := HA.out; omega), HLL.out]
                  refine HF.out.blk (.of_sort ?_)
                  have h1 := HNN.out
                  have h2 := HA.out
                  omega)
                have q1 : (n : Int) ≤ (a : Int) + (s : Int) := by omega
                go_wp2
                go_roundw
                case rel => exact ⟨s + s, _, _, _, by congr 1; omega, rfl, rfl, by omega, by omega, HBB, HS.out⟩
                case measure => simp only [intOf]; omega
        · have HF : Hid (SortAt (encP pc) 1 w b o (sortL le L) wr) := hid (by
            have := HB.out.one (by rw [HB.out.len, ← HN.out]; omega)
            rw [← this]
            exact HS.out)
          go_wp2
          go_end0
          exact ⟨rfl, HF.out⟩

set_option maxRecDepth 100000 in
theorem sort_p {cap n : Nat} (L : List α) (W : World) (hc : CmpP 47 pc cf w b) (hcl : CmpLe cf le) (hl : n = L.length) (h : SortAt (encP pc) 1 w b o L W) (hcap : n ≤ cap) (hcap2 : n ≤ 1000000000000) :
    Calls Tryz.prog 50 #[.slice (some ⟨b, o, none⟩) n cap, .func (.func 47) #[] #[]] W
      fun e w' => e = .returned (.tuple #[]) ∧ SortAt (encP pc) 1 w b o (sortL le L) w' := by
  have C := hid (stable_p L W hc hcl hl h hcap hcap2)
  clear hc hcl hl h
  go_enter Tryz.func50, Tryz.ntmps50
  go_wp2_with fail
  with_reducible refine C.out.mono ?_
  rintro e w2 ⟨rfl, hs2⟩
  have HS2 := hid hs2
  clear hs2
  go_wp2
  go_end0
  exact ⟨rfl, HS2.out⟩
end
end Go.Proofs.YthplgldclilccaaGreat

namespace Go.Proofs.YthplgldclilccaaGreat
open Go.RowKit Go.Sort

/-- the cells of a slice of polynomials -/
def CellsL (S : Nat → Prop) (w : World) (xs : List Value) (l : List (List RTerm)) : Prop := xs.length = l.length ∧ ∀ (j : Nat) (p : List RTerm), l[j]? = some p → ∃ vp, xs[j]? = some vp ∧ Terms S w vp p
theorem CellsL.nil (S : Nat → Prop) (w : World) : CellsL S w [] [] := ⟨rfl, fun j p h => by simp at h⟩
theorem CellsL.to {S S' : Nat → Prop} {w w' : World} {xs : List Value} {l : List (List RTerm)} (h : CellsL S w xs l) (hk : Kept S w w') (hS : ∀ k, S k → S' k) : CellsL S' w' xs l :=
  ⟨h.1, fun j p hj => by
    obtain ⟨vp, h1, h2⟩ := h.2 j p hj
    exact ⟨vp, h1, h2.to hk hS⟩⟩
theorem CellsL.snoc {S : Nat → Prop} {w : World} {xs : List Value} {l : List (List RTerm)} {v : Value} {p : List RTerm} (h : CellsL S w xs l) (hv : Terms S w v p) : CellsL S w (xs ++ [v]) (l ++ [p]) := by
  refine ⟨by simp [h.1], fun j q hj => ?_⟩
  by_cases hlt : j < l.length
  · rw [List.getElem?_append_left hlt] at hj
    rw [List.getElem?_append_left (by rw [h.1]; exact hlt)]
    exact h.2 j q hj
  · have hj2 := lt_of_some hj
    simp only [List.length_append, List.length_cons, List.length_nil] at hj2
    obtain rfl : j = l.length := by omega
    rw [List.getElem?_append_right (Nat.le_refl _), Nat.sub_self] at hj
    obtain rfl : p = q := by simpa using hj
    refine ⟨v, ?_, hv⟩
    rw [← h.1, List.getElem?_append_right (Nat.le_refl _), Nat.sub_self]
    rfl
theorem Polys.nilv (S : Nat → Prop) (w : World) (a : Option Addr) (cap : Nat) (h : cap ≤ 9223372036854775807) : Polys S w (.slice a 0 cap) [] :=
  ⟨0, 0, ⟨a, cap, rfl, Nat.zero_le _, h, fun h => absurd h (Nat.lt_irrefl 0), fun h => absurd h (Nat.lt_irrefl 0)⟩, fun j t hj => by simp at hj⟩
theorem own_polys {S : Nat → Prop} {w : World} {base : Nat} {e : TypeId} {v : Value} {xs : List Value} {l : List (List RTerm)} (h : w.ownsRow base e 1 v l.length xs) (hc : CellsL S w xs l) (hB : ∀ k, base ≤ k → k < w.heap.size → S k) : Polys S w v l := by
  have hlt := h.lt
  rcases h.2 with ⟨rfl, h0⟩ | ⟨g, cap, cur, rfl, hg, hh, h1, h2, h3, h4⟩
  · obtain rfl : l = [] := List.length_eq_zero_iff.1 h0
    exact Polys.nilv _ _ _ _ (by decide)
  · refine ⟨g, 0, ⟨_, cap, rfl, h1, h2, fun _ => rfl, fun _ => hB g (hlt g rfl).1 (hlt g rfl).2⟩, fun j t hj => ?_⟩
    obtain ⟨vp, g1, g2⟩ := hc.2 j t hj
    have hb := lt_of_some hj
    refine ⟨vp, ?_, g2⟩
    rw [h.cellAt (0 + j) (by omega), Nat.zero_add]
    exact g1
theorem Tryz.infoPoly : (Tryz.prog.info? 26).map (fun i => (i.zero, i.size, i.bytes)) = some (some (.slice none 0 0), 1, 24) := by kernel_rfl
theorem one_cellV {u : Value} (h : u.oneCell' = true) : ∀ y ∈ (#[u] : Array Value).toList, y.oneCell' = true := by
  intro y hy
  simp at hy
  rw [hy]; exact h
section
variable {w w1 w2 : World} {o : Value} {e : TypeId} {size n : Nat} {xs : List Value}
theorem cellsL_ext {l : List (List RTerm)} (h : CellsL (NewOff w w1 o) w1 xs l) (hx : Ext w1 w2) : CellsL (NewOff w w2 o) w2 xs l :=
  h.to (Kept.ext hx (fun _ h => h.1.2)) (fun _ h => ⟨⟨h.1.1, Nat.lt_of_lt_of_le h.1.2 hx.size⟩, h.2⟩)
theorem terms_off {v : Value} {p : List RTerm} (h0 : Ext w w1) (ho : w1.ownsRow w.heap.size e size o n xs) (h : Terms (New w1 w2) w2 v p) : Terms (NewOff w w2 o) w2 v p :=
  h.to (Kept.refl _ _) (fun k hk => ⟨⟨Nat.le_trans h0.size hk.1, hk.2⟩, fun e => by
    have := (ho.lt k e.symm).2
    have := hk.1
    omega⟩)
theorem cellsL_grown {v3 : Value} {w3 : World} {l : List (List RTerm)} {B : Nat} (h : CellsL (NewOff w w2 o) w2 xs l) (hg : w2.grownBy w3 o.ownBlock) (hb : v3.ownBlock = o.ownBlock ∨ v3.ownBlock = some B) (hB : w2.heap.size ≤ B) : CellsL (NewOff w w3 v3) w3 xs l :=
  h.to (Kept.grown hg (fun _ h => ⟨h.1.2, h.2⟩)) (fun k hk => ⟨⟨hk.1.1, Nat.lt_of_lt_of_le hk.1.2 hg.size⟩, by
    rcases hb with e | e
    · rw [e]; exact hk.2
    · rw [e]
      intro e2
      have e3 : k = B := Option.some.inj e2
      have := hk.1.2
      omega⟩)
end

def okP (p : List RTerm) : Bool := decide (0 < p.length) && mayT p
/-- how polynomials are sorted: by rising ranks -/
def rankC (p q : List RTerm) : Int := orderR (rankP (plainP p)) (rankP (plainP q))
def rankL (p q : List RTerm) : Bool := decide (0 ≤ rankC q p)
def sortR (l : List (List RTerm)) : List (List RTerm) := sortL rankL (l.filter okP)

/-- a polynomial whose parts lie in a world -/
structure PolyIn (S : Nat → Prop) (w : World) where
  t : List RTerm
  c : PCell
  h : Terms S w (.slice c.a c.n c.c) t
  small : smallT t
instance (S : Nat → Prop) (w : World) : Inhabited (PolyIn S w) := ⟨⟨[], ⟨none, 0, 0⟩, Terms.nilv _ _ _ _ (by decide), fun t ht => by simp at ht⟩⟩
section
variable {S : Nat → Prop} {w : World}
theorem cells_polys {xs : List Value} {ls : List (List RTerm)} (h : CellsL S w xs ls) (hs : smallL ls) : ∃ d : List (PolyIn S w), d.map (·.t) = ls ∧ xs = d.map (fun x => .slice x.c.a x.c.n x.c.c) := by
  obtain ⟨hl, hc⟩ := h
  induction ls generalizing xs with
  | nil => exact ⟨[], rfl, by simpa using List.length_eq_zero_iff.1 hl⟩
  | cons p r ih =>
    cases xs with
    | nil => simp at hl
    | cons v ys =>
      obtain ⟨vp, h1, h2⟩ := hc 0 p rfl
      obtain rfl : v = vp := by simpa using h1
      obtain ⟨d, hd1, hd2⟩ := ih (fun q hq => hs q (by simp [hq])) (xs := ys) (by simpa using hl) (fun j q hj => hc (j + 1) q (by simpa using hj))
      obtain ⟨a, c, rfl⟩ := h2.form
      exact ⟨⟨p, ⟨a, p.length, c⟩, h2, hs p (by simp)⟩ :: d, by simp [hd1], by simp [hd2]⟩
theorem own_sortAtP {base g n cap : Nat} {e : TypeId} {xs : List Value} {d : List (PolyIn S w)} (h : w.ownsRow base e 1 (.slice (some ⟨g, 0, none⟩) n cap) n xs) (hx : xs = d.map (fun x => .slice x.c.a x.c.n x.c.c)) (hn : n = d.length) : SortAt (encP (fun x : PolyIn S w => x.c)) 1 w g 0 d w ∧ n ≤ cap ∧ cap ≤ maxLen := by
  obtain ⟨hl, hh⟩ := h
  rcases hh with ⟨h1, _⟩ | ⟨g', cap', cur, h1, h2, h3, h4, h5, h6, h7⟩
  · simp at h1
  · obtain ⟨rfl, rfl⟩ : g = g' ∧ cap = cap' := by simpa using h1
    refine ⟨⟨grown_refl _ _, ?_, (Array.getElem?_eq_some_iff.1 h3).1⟩, h4, h5⟩
    intro j hj
    rw [size_flatK, Nat.mul_one] at hj
    have hj3 : j < d.length := by simpa using hj
    obtain ⟨x, hxd⟩ := some_of_lt hj3
    rw [Nat.zero_add]
    have hjn : j < n * 1 := by omega
    have hcell : w.cell? ⟨g, j, none⟩ = xs[j]? ∧ w.frozen? ⟨g, j, none⟩ = false := by
      unfold World.cell? World.frozen?
      simp only [h3]
      rw [← h7, List.getElem?_take, if_pos hjn]
      simp
    refine ⟨?_, hcell.2⟩
    rw [hcell.1, hx, get_flatK _ _ _ _ (by rw [Nat.mul_one]; exact hj), Nat.div_one, Nat.mod_one, arr_at hxd]
    simp [hxd]
end
theorem orderR_range (a b : Int × Int) : -1 ≤ orderR a b ∧ orderR a b ≤ 1 := by
  rw [orderR_eq]
  split
  · omega
  · split <;> omega
theorem orderR_le (a b : Int × Int) : 0 ≤ orderR b a ↔ (a.1 < b.1 ∨ a.1 = b.1 ∧ a.2 ≤ b.2) := by
  rw [orderR_eq]
  unfold lessR
  simp only [decide_eq_true_eq]
  split
  · omega
  · split <;> omega
theorem rank_le : CmpLe rankC rankL := by
  refine ⟨fun x y => orderR_range _ _, fun x y => rfl, ⟨fun a b c h1 h2 => ?_, fun a b => ?_⟩⟩
  · unfold rankL rankC at *
    simp only [decide_eq_true_eq, orderR_le] at *
    omega
  · unfold rankL rankC
    simp only [decide_eq_true_eq, orderR_le]
    omega
theorem polyIn_le {S : Nat → Prop} {w : World} : CmpLe (fun x y : PolyIn S w => rankC x.t y.t) (fun x y => rankL x.t y.t) :=
  ⟨fun _x _y => rank_le.range _ _, fun _x _y => rank_le.eq _ _, ⟨fun _a _b _c h1 h2 => rank_le.total.trans _ _ _ h1 h2, fun _a _b => rank_le.total.total _ _⟩⟩
theorem map_merge {α β : Type} {le : β → β → Bool} (f : α → β) (xs ys : List α) : (mergeL (fun x y => le (f x) (f y)) xs ys).map f = mergeL le (xs.map f) (ys.map f) := by
  induction xs generalizing ys with
  | nil => rw [mergeL_nil]; exact (mergeL_nil _).symm
  | cons x xs ihx =>
    induction ys with
    | nil => rw [mergeL_right]; exact (mergeL_right _).symm
    | cons y ys ihy =>
      cases h : le (f x) (f y) with
      | true =>
        rw [mergeL_pos (le := fun x y => le (f x) (f y)) xs ys h, List.map_cons, ihx, List.map_cons, List.map_cons, mergeL_pos _ _ h]
      | false =>
        rw [mergeL_neg (le := fun x y => le (f x) (f y)) xs ys h, List.map_cons, ihy, List.map_cons, List.map_cons, mergeL_neg _ _ h]
theorem map_sort {α β : Type} {le : β → β → Bool} (f : α → β) (xs : List α) : (sortL (fun x y => le (f x) (f y)) xs).map f = sortL le (xs.map f) := by
  induction xs with
  | nil => rfl
  | cons x xs ih =>
    show (mergeL _ [x] (sortL _ xs)).map f = mergeL le [f x] (sortL le (xs.map f))
    rw [map_merge, ih]
    rfl

theorem compare_cmp {S : Nat → Prop} {w : World} {g : Nat} (hS : ∀ k, S k → k < w.heap.size ∧ k ≠ g) : CmpP 47 (fun x : PolyIn S w => x.c) (fun x y => rankC x.t y.t) w g := by
  intro W hW x y
  have hk : Kept S w W := Kept.grown hW (fun k hk => ⟨(hS k hk).1, fun e => (hS k hk).2 (Option.some.inj e)⟩)
  have hSW : ∀ k, S k → k < W.heap.size := fun k hk => Nat.lt_of_lt_of_le (hS k hk).1 hW.size
  exact rank_compare _ _ x.t y.t W (x.h.to hk (fun _ h => h)) (y.h.to hk (fun _ h => h)) hSW x.small y.small

/-- the sort of no polynomials -/
theorem sort_none_p (A : Option Addr) (c : Nat) (W : World) : Calls Tryz.prog 50 #[.slice A 0 c, .func (.func 47) #[] #[]] W fun e w' => e = .returned (.tuple #[]) ∧ W = w' := by
  have hi : ∀ W, Calls Tryz.prog 129 #[.slice A 0 c, .int .i64 0, .int .i64 0, .func (.func 47) #[] #[]] W fun e w' => e = .returned (.tuple #[]) ∧ W = w' := by
    intro W
    go_enter Tryz.func129, Tryz.ntmps129
    go_wp2
    refine wp_loop_rounds 1 ?_
    rw [rounds_succ]
    go_wp2
    go_end0
    exact ⟨rfl, rfl⟩
  have HI := hid hi
  have hs : Calls Tryz.prog 98 #[.slice A 0 c, .int .i64 0, .func (.func 47) #[] #[]] W fun e w' => e = .returned (.tuple #[]) ∧ W = w' := by
    clear hi
    go_enter Tryz.func98, Tryz.ntmps98
    go_wp2
    refine wp_loop_rounds 1 ?_
    rw [rounds_succ]
    go_wp2_with fail
    with_reducible refine (HI.out _).mono ?_
    rintro e w1 ⟨rfl, rfl⟩
    go_wp2
    refine wp_loop_rounds 1 ?_
    rw [rounds_succ]
    go_wp2
    go_end0
    exact ⟨rfl, rfl⟩
  have HS := hid hs
  clear hi hs
  go_enter Tryz.func50, Tryz.ntmps50
  go_wp2_with fail
  with_reducible refine HS.out.mono ?_
  rintro e w1 ⟨rfl, rfl⟩
  go_wp2
  go_end0
  exact ⟨rfl, rfl⟩

set_option maxRecDepth 100000 in
set_option maxHeartbeats 4000000 in
theorem rank_sort {S : Nat → Prop} (v : Value) (ls : List (List RTerm)) (w : World) (h : Polys S w v ls) (hS : ∀ k, S k → k < w.heap.size) (hr : ∀ p ∈ ls, (∀ t ∈ p, t.c.mag.length ≤ 10000000000) ∧ p.length ≤ 1000000000) (hn : ls.length ≤ 1000000000) :
    Calls Tryz.prog 11 #[v] w fun e w' => ∃ v', e = .returned v' ∧ Polys (New w w') w' v' (sortR ls) ∧ Ext w w' := by
  have H := hid h
  have HR := hid hr
  have hll := h.len_le
  obtain ⟨A, c, rfl⟩ := h.form
  obtain ⟨n, hnn⟩ : ∃ n, n = ls.length := ⟨_, rfl⟩
  rw [← hnn] at H hll ⊢
  have HN := hid hnn
  have HN2 : Hid (n ≤ 1000000000) := hid (by rw [hnn]; exact hn)
  clear h hr hnn hn
  go_enter Tryz.func11, Tryz.ntmps11
  go_wp2
  go_loopw [2, 4, 5, 6, 9] (fun o _ _ _ i wr => ∃ (k m : Nat) (xs : List Value), k ≤ n ∧ i = .int .i64 k ∧ Ext w wr ∧ Hid (m = ((ls.take k).filter okP).length) ∧ Hid (wr.ownsRow w.heap.size 26 1 o m xs) ∧ Hid (CellsL (NewOff w wr o) wr xs ((ls.take k).filter okP))) (fun _ _ _ _ i _ => n - (intOf i).toNat)
  case atStart => exact ⟨0, 0, [], Nat.zero_le _, rfl, Ext.refl _, rfl, World.ownsRow_nil _ _ _ _, CellsL.nil _ _⟩
  case round =>
    obtain ⟨k, m, xs, hk, rfl, hx, HM, HW, HY⟩ := hrel
    have HX := hid hx
    by_cases hlt : k < n
    · obtain ⟨p, hp⟩ := some_of_lt (l := ls) (j := k) (by rw [← HN.out]; exact hlt)
      obtain ⟨bl, off, vp, rfl, -, hn1, hm1, hSb, h1, h2⟩ := (H.out.ext hx hS).cellAt hp
      have HT : Hid ((ls.take (k + 1)).filter okP = (ls.take k).filter okP ++ (if okP p then [p] else [])) := hid (by
        rw [List.take_add_one, hp, List.filter_append]
        congr 1
        cases h : okP p <;> simp [h])
      have HRP := hid (HR.out p (List.mem_of_getElem? hp))
      have H2 := hid h2
      have HMK : Hid (m ≤ 1000000000) := hid (by
        rw [HM.out]
        have h3 := List.length_filter_le okP (ls.take k)
        have h4 := HN2.out
        rw [List.length_take] at h3
        omega)
      have hlp := h2.len_le
      obtain ⟨ap, cp, rfl⟩ := h2.form
      have C := poly_may (S := S) (.slice ap p.length cp) p wr h2 (lt_ext hS hx) (fun t ht => Nat.le_trans (HRP.out.1 t ht) (by decide))
      have CD := fun (hm : mayT p = true) (W : World) (hW : Ext w W) (h : Terms S W (.slice ap p.length cp) p) => poly_add (S := S) (.slice ap p.length cp) (.slice none 0 0) p [] W 10000000000 h (Terms.nilv _ _ _ _ (by decide)) (lt_ext hS hW) hm rfl HRP.out.1 (fun t ht => by simp at ht) (Nat.le_refl _) (by have := HRP.out.2; simp; omega)
      obtain ⟨np, hnp⟩ : ∃ m, m = p.length := ⟨_, rfl⟩
      rw [← hnp] at h1 hlp C CD H2
      have HNP := hid hnp
      have HC := hid C
      have HCD := hid CD
      clear h2 hp hx C CD hnp
      by_cases h0 : np = 0
      · have HF : Hid (okP p = false) := hid (by unfold okP; rw [← HNP.out, h0]; rfl)
        subst h0
        go_wp2
        go_roundw
        case rel =>
          refine ⟨k + 1, m, xs, by omega, by go_num, HX.out, ?_, HW, ?_⟩
          · show _ = _; rw [HT.out, HF.out]; simpa using HM.out
          · show CellsL _ _ _ _; rw [HT.out, HF.out]; simpa using HY.out
        case measure => simp only [intOf]; omega
      · have q0 : (0 : Int) < (np : Int) := by omega
        cases hm : mayT p with
        | false =>
          have HF : Hid (okP p = false) := hid (by unfold okP; rw [hm]; simp)
          rw [hm] at HC
          go_wp2_with fail
          with_reducible refine HC.out.mono ?_
          rintro e w2 ⟨rfl, hx2⟩
          have HX2 := hid hx2
          clear hx2
          go_wp2
          go_roundw
          case rel =>
            refine ⟨k + 1, m, xs, by omega, by go_num, HX.out.trans HX2.out, ?_, own_ext HW.out HX2.out, ?_⟩
            · show _ = _; rw [HT.out, HF.out]; simpa using HM.out
            · show CellsL _ _ _ _; rw [HT.out, HF.out]; simpa using cellsL_ext HY.out HX2.out
          case measure => simp only [intOf]; omega
        | true =>
          have HF : Hid (okP p = true) := hid (by unfold okP; rw [hm, ← HNP.out]; simp; omega)
          have HPN : Hid (ofP (normP (toP p ++ toP [])) = p) := hid (by
            rw [show toP [] = [] from rfl, List.append_nil, normP_of_can (mayT_can hm)]
            exact mayT_of H2.out.okT hm)
          rw [hm] at HC
          have HCE := hid (HCD.out hm)
          clear hm HCD
          go_wp2_with fail
          with_reducible refine HC.out.mono ?_
          rintro e w2 ⟨rfl, hx2⟩
          have HX2 := hid hx2
          clear hx2
          go_wp2_with fail
          with_reducible refine (HCE.out w2 (HX.out.trans HX2.out) (H2.out.ext HX2.out (lt_ext hS HX.out))).mono ?_
          rintro e w3 ⟨v3, rfl, hp3, hx3⟩
          have HW3 := hid (own_ext HW.out (HX2.out.trans hx3))
          have HY3 := hid (cellsL_ext HY.out (HX2.out.trans hx3))
          rw [HPN.out] at hp3
          have HP3 := hid (terms_off (HX.out.trans HX2.out) (own_ext HW.out HX2.out) hp3)
          have HX3 := hid (HX.out.trans (HX2.out.trans hx3))
          obtain ⟨a3, c3, rfl⟩ := hp3.form
          rw [← HNP.out] at HP3 ⊢
          clear hp3 hx3
          go_wp2_with (at_builtin; refine wpList_append_new _ rfl (.tmp 25) (.tmp 27) 22 rfl w.heap.size 26 (.slice none 0 0) 1 24 Tryz.underlying22 Tryz.infoPoly rfl (by decide) _ m xs rfl HW3.out #[.slice a3 np c3] rfl (one_cellV rfl) rfl HMK.out (by decide) HX3.out.size ?_; intro v4 w4 hown hg hbk; have HW4 := hid hown; have HG4 := hid hg; have HBK := hid hbk; clear hown hg hbk)
          go_roundw
          case rel =>
            refine ⟨k + 1, m + 1, xs ++ (#[.slice a3 np c3] : Array Value).toList, by omega, by go_num, own_grown0 HX3.out HW3.out HG4.out, ?_, HW4.out, ?_⟩
            · show _ = _; rw [HT.out, HF.out]; simpa using HM.out
            · show CellsL _ _ _ _
              rw [HT.out, HF.out]
              exact cellsL_grown (HY3.out.snoc HP3.out) HG4.out HBK.out (Nat.le_succ _)
          case measure => simp only [intOf]; omega
    · obtain rfl : k = n := by omega
      have hcells : CellsL (NewOff w wr u2) wr xs (ls.filter okP) := by
        have := HY.out
        rwa [List.take_of_length_le (by rw [← HN.out]; exact Nat.le_refl _)] at this
      have hm : m = (ls.filter okP).length := by
        have := HM.out
        rwa [List.take_of_length_le (by rw [← HN.out]; exact Nat.le_refl _)] at this
      have HMN : Hid (m ≤ 1000000000) := hid (by
        have h1 := List.length_filter_le okP ls
        have h2 := HN2.out
        have h3 := HN.out
        omega)
      have hsm : smallL (ls.filter okP) := fun p hp t ht => Nat.le_trans ((HR.out p (List.mem_filter.1 hp).1).1 t ht) (by decide)
      have HCE := hid hcells
      obtain ⟨d, hd1, hd2⟩ := cells_polys hcells hsm
      have hown := HW.out
      rcases hown.2 with ⟨rfl, h0⟩ | ⟨g, hg', cur, rfl, hg, hgg, hnc, hcm, hsz, hcur⟩
      · have HE : Hid (sortR ls = []) := hid (by
          unfold sortR
          rw [List.length_eq_zero_iff.1 (show (ls.filter okP).length = 0 by omega)]
          rfl)
        clear hcells hm hsm hd1 hd2 hown h0 hx
        go_wp2_with fail
        with_reducible refine (sort_none_p _ _ _).mono ?_
        rintro e w2 ⟨rfl, rfl⟩
        go_wp2
        go_ret
        exact ⟨_, rfl, by rw [HE.out]; exact Polys.nilv _ _ _ _ (by decide), HX.out⟩
      · have hmd : m = d.length := by
          have h1 := congrArg List.length hd1
          rw [List.length_map] at h1
          omega
        obtain ⟨hsa, hc1, hc2⟩ := own_sortAtP hown hd2 hmd
        have hSg : ∀ k, NewOff w wr (.slice (some ⟨g, 0, none⟩) m hg') k → k < wr.heap.size ∧ k ≠ g := fun k hk => ⟨hk.1.2, fun e => hk.2 (by rw [e]; rfl)⟩
        have C := hid (sort_p (pc := fun x : PolyIn (NewOff w wr (.slice (some ⟨g, 0, none⟩) m hg')) wr => x.c) (cf := fun x y => rankC x.t y.t) (le := fun x y => rankL x.t y.t) (cap := hg') d wr (compare_cmp hSg) polyIn_le hmd hsa hc1 (by have := HMN.out; omega))
        have HD1 := hid hd1
        have HMD := hid hmd
        have HGW : Hid (w.heap.size ≤ g) := hid hg
        have HSG := hid hSg
        unfold maxLen at hc2
        have HC2 := hid hc2
        have HC1 := hid hc1
        clear hcells hm hsm hd1 hd2 hown hmd hsa hSg hg hgg hnc hcm hsz hcur hx hc1 hc2
        go_wp2_with fail
        with_reducible refine C.out.mono ?_
        rintro e w2 ⟨rfl, hs2⟩
        have HS2 := hid hs2
        clear hs2
        go_wp2
        go_ret
        have hx2 : Ext w w2 := ext_grown HX.out HS2.out.grown (fun k hk => by
          have : g = k := Option.some.inj hk
          have := HGW.out
          omega)
        refine ⟨_, rfl, ?_, hx2⟩
        have hk2 : Kept (NewOff w wr (.slice (some ⟨g, 0, none⟩) m hg')) wr w2 := Kept.grown HS2.out.grown (fun k hk => ⟨(HSG.out k hk).1, fun e => (HSG.out k hk).2 (Option.some.inj e)⟩)
        have hsr : sortR ls = (sortL (fun x y => rankL x.t y.t) d).map (·.t) := by
          unfold sortR
          rw [← HD1.out]
          exact (map_sort (fun x : PolyIn (NewOff w wr (.slice (some ⟨g, 0, none⟩) m hg')) wr => x.t) d).symm
        rw [hsr]
        have hlen : m = ((sortL (fun x y => rankL x.t y.t) d).map (·.t)).length := by rw [List.length_map, sortL_len]; exact HMD.out
        refine ⟨g, 0, ⟨_, hg', by rw [← hlen]; rfl, by rw [← hlen]; exact HC1.out, HC2.out, fun _ => rfl, fun _ => ⟨HGW.out, Nat.lt_of_lt_of_le HS2.out.old HS2.out.grown.size⟩⟩, fun j p hj => ?_⟩
        rw [List.getElem?_map] at hj
        obtain ⟨x, hx, rfl⟩ := Option.map_eq_some_iff.1 hj
        refine ⟨_, (HS2.out.get1 hx).1, x.h.to hk2 (fun k hk => ⟨hk.1.1, Nat.lt_of_lt_of_le hk.1.2 HS2.out.grown.size⟩)⟩
end Go.Proofs.YthplgldclilccaaGreat

namespace Go.Proofs.YthplgldclilccaaGreat
open Go.RowKit

set_option maxRecDepth 100000 in
theorem build_each {S : Nat → Prop} (vq : Value) (qs : List RTerm) (w : World) (hq : Terms S w vq qs) (hS : ∀ k, S k → k < w.heap.size) (hrq : smallT qs) :
    Calls Tryz.prog 89 #[vq] w fun e w' => e = .returned (.bool (!mayT qs)) ∧ Ext w w' := by
  have hnot : ∀ (x : Bool) (w : World), (Op.unary .not (.bool x)).run Tryz.prog w = .ok (.bool (!x)) w := fun _ _ => rfl
  have HC := hid (poly_may vq qs w hq hS hrq)
  obtain ⟨aq, cq, rfl⟩ := hq.form
  clear hq hrq
  go_enter Tryz.func89, Tryz.ntmps89
  go_wp2_with fail
  refine HC.out.mono ?_
  rintro e w1 ⟨rfl, hx1⟩
  have HX1 := hid hx1
  clear hx1
  go_wp2
  all_goals
    go_ret
    exact ⟨rfl, HX1.out⟩

set_option maxRecDepth 100000 in
set_option maxHeartbeats 1000000 in
theorem build_index {S : Nat → Prop} (vl : Value) (ls : List (List RTerm)) (w : World) (hl : Polys S w vl ls) (hS : ∀ k, S k → k < w.heap.size) (hrl : smallL ls) :
    Calls Tryz.prog 122 #[vl, .func (.func 89) #[] #[]] w fun e w' => ∃ n : Int, e = .returned (.int .i64 n) ∧ -1 ≤ n ∧ n ≤ 9223372036854775807 ∧ (0 ≤ n ↔ ls.all mayT = false) ∧ Ext w w' := by
  have HL := hid hl
  have HRL := hid hrl
  have hle := hl.len_le
  obtain ⟨a, cap, rfl⟩ := hl.form
  clear hl hrl
  go_enter Tryz.func122, Tryz.ntmps122
  go_wp2
  go_loopw [8] (fun i wr => ∃ k : Nat, k ≤ ls.length ∧ i = .int .i64 k ∧ Ext w wr ∧ (ls.take k).all mayT = true) (fun i _ => ls.length - (intOf i).toNat)
  case atStart => exact ⟨0, Nat.zero_le _, rfl, Ext.refl _, rfl⟩
  case round =>
    obtain ⟨k, hk, rfl, hx, hm⟩ := hrel
    by_cases hlt : k < ls.length
    · obtain ⟨q, hq⟩ := some_of_lt hlt
      obtain ⟨bl, off, vq, rfl, -, hn1, hm1, hSb, h1, h2⟩ := HL.out.cellAt hq
      have HRQ := hid (HRL.out q (List.mem_of_getElem? hq))
      have g1 := Ext.cell hx h1
      have HX := hid hx
      have H2 := hid h2
      have HQ := hid hq
      have HM := hid hm
      have ht : ls.take (k + 1) = ls.take k ++ [q] := by rw [List.take_add_one, hq]; rfl
      have HT := hid ht
      obtain ⟨aq, cq, rfl⟩ := h2.form
      have hcl := build_each (S := S) (.slice aq q.length cq) q wr (h2.ext hx hS) (lt_ext hS hx) HRQ.out
      have HCL := hid hcl
      clear hcl h1 h2 hx hq hm ht
      go_wp2_with fail
      refine HCL.out.mono ?_
      rintro e w1 ⟨rfl, hx1⟩
      have HX1 := hid (HX.out.trans hx1)
      clear hx1
      cases hr : mayT q with
      | true =>
        have HR := hid hr
        clear hr
        go_wp2
        go_roundw
        case rel => exact ⟨k + 1, by omega, by go_num, HX1.out, by rw [HT.out]; rw [List.all_append, HM.out]; simp [HR.out]⟩
        case measure => simp only [intOf]; omega
      | false =>
        have HR := hid hr
        clear hr
        go_wp2
        go_ret
        refine ⟨(k : Int), rfl, by omega, by omega, ⟨fun _ => ?_, fun _ => by omega⟩, HX1.out⟩
        rw [List.all_eq_false]
        exact ⟨q, List.mem_of_getElem? HQ.out, by rw [HR.out]; simp⟩
    · obtain rfl : k = ls.length := by omega
      have HX := hid hx
      rw [List.take_length] at hm
      have HM := hid hm
      clear hx hm
      go_wp2
      go_ret
      exact ⟨-1, rfl, by omega, by omega, by rw [HM.out]; simp, HX.out⟩

set_option maxRecDepth 100000 in
set_option maxHeartbeats 1000000 in
theorem build_contains {S : Nat → Prop} (vl : Value) (ls : List (List RTerm)) (w : World) (hl : Polys S w vl ls) (hS : ∀ k, S k → k < w.heap.size) (hrl : smallL ls) :
    Calls Tryz.prog 88 #[vl, .func (.func 89) #[] #[]] w fun e w' => e = .returned (.bool (!(ls.all mayT))) ∧ Ext w w' := by
  have HI := hid (build_index vl ls w hl hS hrl)
  obtain ⟨a, cap, rfl⟩ := hl.form
  clear hl hrl
  go_enter Tryz.func88, Tryz.ntmps88
  go_wp2_with fail
  refine HI.out.mono ?_
  rintro e w1 ⟨n, rfl, hn1, hn2, hn3, hx1⟩
  have HX1 := hid hx1
  have HN := hid hn3
  clear hx1 hn3
  by_cases hn : 0 ≤ n
  · have HF := hid (HN.out.1 hn)
    go_wp2
    go_ret
    exact ⟨by rw [HF.out]; rfl, HX1.out⟩
  · have HF : Hid (ls.all mayT = true) := by
      cases h : ls.all mayT with
      | true => exact hid rfl
      | false => exact absurd (HN.out.2 h) hn
    go_wp2
    go_ret
    exact ⟨by rw [HF.out]; show Ending.returned (.bool (decide (0 ≤ n))) = _; rw [decide_eq_false (by omega)]; rfl, HX1.out⟩


/-- polynomials that lie in memory -/
abbrev PVs (W : World) (v : Value) (l : List PZ) : Prop := Polys (Old W) W v (l.map ofP)

set_option maxRecDepth 100000 in
set_option maxHeartbeats 8000000 in
theorem z_coefs {W : World} {u : Value} {p : PZ} {x : Int} {k n : Nat} (hp : PV W u p) (fp : Fit k n p) (hk : k ≤ 1000000) (hn : n ≤ 1000000000) (hx : 1 ≤ x ∧ x ≤ 200) :
    Calls Tryz.prog 39 #[u, .int .i64 x] W fun e w' => ∃ v', e = .returned v' ∧ Polys (New W w') w' v' ((coefsP p x).map ofP) ∧ Ext W w' := by
  have HP := hid hp
  have hdr := degP_range fp.can.may x
  have HI : Hid (inI64 x) := hid (by unfold inI64; omega)
  have CP := hid (view_plain u (ofP p) W hp (fun _ h => h) (fp.small hk))
  have epl : plainT (ofP p) = ofP p := by unfold plainT; rw [if_pos fp.may]
  rw [epl] at CP
  have CD := hid (fun (Y : World) (hY : Ext W Y) => z_degree (hp.on hY) fp hk HI.out)
  have CC := hid (fun (Y : World) (hY : Ext W Y) (d : Int) (hd : inI64 d) => z_coef (hp.on hY) fp hk hn hx hd)
  have HPN : Hid ((ofP p).length = 0 ↔ p = []) := hid (by rw [ofP_len]; exact List.length_eq_zero_iff)
  obtain ⟨ap, cp, rfl⟩ := hp.form
  obtain ⟨np, hnp⟩ : ∃ n, n = (ofP p).length := ⟨_, rfl⟩
  rw [← hnp] at HP CP CD CC HPN ⊢
  obtain ⟨D, hD⟩ : ∃ D : Nat, (D : Int) = degP p x := ⟨(degP p x).toNat, by omega⟩
  have HCO : Hid (coefsP p x = if np = 0 then [] else (List.range (D + 1)).map fun e => coefP p x (e : Nat)) := hid (by
    unfold coefsP
    by_cases h0 : np = 0
    · rw [if_pos h0, if_pos (HPN.out.1 h0)]
    · rw [if_neg h0, if_neg (fun e => h0 (HPN.out.2 e)), show (degP p x).toNat = D by omega])
  rw [← hD] at CD hdr
  have HNP := hid hnp
  have hle : np ≤ 9223372036854775807 := by rw [hnp]; exact HP.out.len_le
  obtain ⟨cl, hcl⟩ : ∃ cl, cl = (coefsP p x).map ofP := ⟨_, rfl⟩
  rw [← hcl]
  have HCL := hid hcl
  clear hp fp epl hD HPN hnp hcl
  by_cases h0 : np = 0
  · rw [if_pos h0] at HCO
    subst h0
    go_enter Tryz.func39, Tryz.ntmps39
    go_wp2_with fail
    with_reducible refine CP.out.mono ?_
    rintro e w1 ⟨v1, rfl, hp1, hx1⟩
    have HX1 := hid hx1
    obtain ⟨a1, c1, rfl⟩ := hp1.form
    rw [← HNP.out]
    clear hp1 hx1
    go_wp2
    all_goals
      go_ret
      refine ⟨_, rfl, ?_, HX1.out⟩
      rw [HCL.out, HCO.out]
      exact Polys.nilv _ _ _ _ (by decide)
  · rw [if_neg h0] at HCO
    have q0 : ((np : Int) == 0) = false := by rw [beq_eq_false_iff_ne]; omega
    have q1 : ¬ x < 1 := by omega
    have q2 : ¬ 200 < x := by omega
    have q3 : decide (x < 1) = false := decide_eq_false q1
    have q4 : decide (200 < x) = false := decide_eq_false q2
    have HCM : Hid ((coefsP p x).map ofP = (List.range (D + 1)).map fun e => ofP (coefP p x ((e : Nat) : Int))) := hid (by rw [HCO.out, List.map_map]; rfl)
    rw [HCM.out] at HCL
    clear h0 HCO HCM
    go_enter Tryz.func39, Tryz.ntmps39
    go_wp2_with fail
    with_reducible refine CP.out.mono ?_
    rintro e w1 ⟨v1, rfl, hp1, hx1⟩
    have HX1 := hid hx1
    obtain ⟨a1, c1, rfl⟩ := hp1.form
    rw [← HNP.out]
    clear hp1 hx1
    go_wp2_with fail
    with_reducible refine (CD.out _ HX1.out).mono ?_
    rintro e w2 ⟨rfl, hx2⟩
    have HX2 := hid (HX1.out.trans hx2)
    clear hx2
    go_wp2
    go_loopw [4, 5, 22] (fun o _ i wr => ∃ (k : Nat) (xs : List Value), k ≤ D + 1 ∧ i = .int .i64 k ∧ Ext w2 wr ∧ Hid (wr.ownsRow w2.heap.size 26 1 o k xs) ∧ Hid (CellsL (NewOff w2 wr o) wr xs ((List.range k).map fun e => ofP (coefP p x ((e : Nat) : Int))))) (fun _ _ i _ => D + 1 - (intOf i).toNat)
    case atStart => exact ⟨0, [], Nat.zero_le _, rfl, Ext.refl _, World.ownsRow_nil _ _ _ _, CellsL.nil _ _⟩
    case round =>
      obtain ⟨j, xs, hj, rfl, hx, HW, HY⟩ := hrel
      have HX := hid hx
      by_cases hlt : j < D + 1
      · have q5 : (j : Int) < (D : Int) + 1 := by omega
        have HC1 := hid (CC.out wr (HX2.out.trans hx) (j : Int) (by unfold inI64; omega))
        have HKB : Hid (j ≤ 1000000000) := hid (by omega)
        have HT : Hid (((List.range (j + 1)).map fun e => ofP (coefP p x ((e : Nat) : Int))) = ((List.range j).map fun e => ofP (coefP p x ((e : Nat) : Int))) ++ [ofP (coefP p x (j : Int))]) := hid (by rw [List.range_succ, List.map_append]; rfl)
        clear hx
        go_wp2_with fail
        with_reducible refine HC1.out.mono ?_
        rintro e w3 ⟨v3, rfl, hp3, hx3⟩
        have HW3 := hid (own_ext HW.out hx3)
        have HY3 := hid (cellsL_ext HY.out hx3)
        have HP3 := hid (terms_off HX.out HW.out hp3)
        have HX3 := hid (HX.out.trans hx3)
        obtain ⟨a3, c3, rfl⟩ := hp3.form
        obtain ⟨n3, hn3⟩ : ∃ n, n = (ofP (coefP p x (j : Int))).length := ⟨_, rfl⟩
        rw [← hn3] at HP3 ⊢
        clear hp3 hx3 hn3
        go_wp2_with (at_builtin; refine wpList_append_new _ rfl (.tmp 25) (.tmp 30) 22 rfl w2.heap.size 26 (.slice none 0 0) 1 24 Tryz.underlying22 Tryz.infoPoly rfl (by decide) _ j xs rfl HW3.out #[.slice a3 n3 c3] rfl (one_cellV rfl) rfl HKB.out (by decide) HX3.out.size ?_; intro v4 w4 hown hg hbk; have HW4 := hid hown; have HG4 := hid hg; have HBK := hid hbk; clear hown hg hbk)
        go_roundw
        case rel =>
          refine ⟨j + 1, xs ++ (#[.slice a3 n3 c3] : Array Value).toList, by omega, by go_num, own_grown0 HX3.out HW3.out HG4.out, HW4.out, ?_⟩
          show CellsL _ _ _ _
          rw [HT.out]
          exact cellsL_grown (HY3.out.snoc HP3.out) HG4.out HBK.out (Nat.le_succ _)
        case measure => simp only [intOf]; omega
      · obtain rfl : j = D + 1 := by omega
        have HO := hid (own_polys (S := New W wr) (l := (List.range (D + 1)).map fun e => ofP (coefP p x ((e : Nat) : Int))) (by rw [List.length_map, List.length_range]; exact HW.out) (HY.out.to (Kept.refl _ _) (fun _ h => ⟨Nat.le_trans HX2.out.size h.1.1, h.1.2⟩)) (fun k h1 h2 => ⟨Nat.le_trans HX2.out.size h1, h2⟩))
        have q5 : ¬ ((D : Int) + 1 < (D : Int) + 1) := by omega
        clear hx
        go_wp2
        all_goals
          go_ret
          refine ⟨_, rfl, ?_, HX2.out.trans HX.out⟩
          rw [HCL.out]
          exact HO.out
end Go.Proofs.YthplgldclilccaaGreat

namespace Go.Proofs.YthplgldclilccaaGreat
open Go.RowKit

theorem pow_one (v : Int) (i : Nat) : oneZ 1 (if i = 0 then [] else [(v, (i : Int))]) = powP v i := by
  unfold oneZ powP
  rw [if_neg (by decide)]
  split <;> rfl
theorem buildF_at {v : Int} {acc : PZ} {l : List PZ} {i : Nat} {q : PZ} (h : l[i]? = some q) : buildF v acc i (l.drop i) = match timesP q (powP v i) with
    | none => none
    | some x => buildF v (normP (acc ++ x)) (i + 1) (l.drop (i + 1)) := by
  rw [drop_at h]
  rfl

set_option maxRecDepth 100000 in
set_option maxHeartbeats 8000000 in
theorem z_build {W : World} {vl : Value} {l : List PZ} {x : Int} {k n : Nat} (hl : PVs W vl l) (fl : ∀ q ∈ l, Fit k n q) (hk : k ≤ 1000) (hn : n ≤ 1000) (hlen : l.length ≤ 1000) (hx : 1 ≤ x ∧ x ≤ 200) :
    Calls Tryz.prog 37 #[vl, .int .i64 x] W (TimesPost W (buildP l x)) := by
  have HL := hid hl
  have HF := hid fl
  have HXI : Hid (inI64 x) := hid (by unfold inI64; omega)
  have HXV := hid hx
  have CC := build_contains (S := Old W) vl (l.map ofP) W hl (fun _ h => h) (fun q hq => by
    obtain ⟨p, hp, rfl⟩ := List.mem_map.1 hq
    exact (fl p hp).small (by omega))
  rw [show (l.map ofP).all mayT = true from List.all_eq_true.2 (fun q hq => by
    obtain ⟨p, hp, rfl⟩ := List.mem_map.1 hq
    exact (fl p hp).may)] at CC
  have HCC := hid CC
  obtain ⟨al, cl, rfl⟩ := hl.form
  obtain ⟨N, hN⟩ : ∃ n, n = (l.map ofP).length := ⟨_, rfl⟩
  have HN : Hid (N = l.length) := hid (by rw [hN, List.length_map])
  rw [← hN] at HL HCC ⊢
  have hN1 : N ≤ 1000 := by rw [HN.out]; exact hlen
  obtain ⟨o, ho⟩ : ∃ o, o = buildP l x := ⟨_, rfl⟩
  rw [← ho]
  have HO := hid ho
  have q1 : decide (x < 1) = false := decide_eq_false (by omega)
  have q2 : decide (200 < x) = false := decide_eq_false (by omega)
  have q3 : decide ((10001 : Int) < (N : Int)) = false := decide_eq_false (by omega)
  have q4 : ¬ x < 1 := by omega
  have q5 : ¬ 200 < x := by omega
  have q6 : ¬ (10001 : Int) < (N : Int) := by omega
  clear hl fl CC hN hlen ho
  go_enter Tryz.func37, Tryz.ntmps37
  go_wp2_with fail
  with_reducible refine HCC.out.mono ?_
  rintro e w1 ⟨rfl, hx1⟩
  have HX1 := hid hx1
  have HL1 := hid (HL.out.on hx1)
  clear hx1
  go_wp2
  go_loopw [4, 28] (fun p i wr => ∃ (i0 : Nat) (acc : PZ), i0 ≤ N ∧ i = .int .i64 i0 ∧ Ext w1 wr ∧ Hid (Terms (New W wr) wr p (ofP acc)) ∧ Hid (Fit (k + 3 + 2 * i0) (n * i0) acc) ∧ Hid (buildF x acc i0 (l.drop i0) = o)) (fun _ i _ => N - (intOf i).toNat)
  case atStart => exact ⟨0, [], Nat.zero_le _, rfl, Ext.refl _, Terms.nilv _ _ _ _ (by decide), fit_nil.mono (by omega) (by omega), HO.out.symm⟩
  case round =>
    obtain ⟨i, acc, hi, rfl, hx, HAN, HFA, HB⟩ := hrel
    have HA := hid (show PV wr u4 acc from HAN.out.to (Kept.refl _ _) New.lt)
    have HX := hid hx
    by_cases hlt : i < N
    · obtain ⟨q, hq⟩ := some_of_lt (l := l) (j := i) (by rw [← HN.out]; exact hlt)
      have hq2 : (l.map ofP)[i]? = some (ofP q) := by rw [List.getElem?_map, hq]; rfl
      obtain ⟨bl, off, vq, rfl, -, hn1, hm1, hSb, h1, h2⟩ := (HL1.out.on hx).cellAt hq2
      have fq := HF.out q (List.mem_of_getElem? hq)
      have HFQ := hid fq
      have HBA := hid (buildF_at (v := x) (acc := acc) hq)
      rw [HB.out] at HBA
      have H2 := hid (show PV wr vq q from h2)
      have CS := hid (fun (Y : World) (vc vm : Value) (hY : Ext wr Y) (hc : IntV (Old Y) Y vc (ofI 1)) (hm : Pows (Old Y) Y vm (if i = 0 then [] else [(x, (i : Int))])) => z_shift (Terms.on h2 hY) hc hm fq (by
        split
        · rfl
        · exact one_may HXV.out (by omega)) (l := 1) (lenI_small (by decide)) (.inr (by decide)) (by omega) (by decide) (by omega))
      simp only [pow_one] at CS
      have CA := hid (fun (Y : World) (va vb : Value) (X : PZ) (ht : timesP q (powP x i) = some X) (ha : PV Y va acc) (hb : PV Y vb X) => z_add ha hb HFA.out ((fq.times (fit_pow HXV.out (i := i) (by omega)) ht (by omega)).mono (l := k + 3 + 2 * i) (m := n) (by omega) (by omega)) (by omega) (by omega) (by
        have : n * i ≤ 1000 * 1000 := Nat.mul_le_mul (by omega) (by omega)
        omega))
      have CB := hid (fun (X : PZ) (ht : timesP q (powP x i) = some X) => by
        have h := HFA.out.add ((fq.times (fit_pow HXV.out (i := i) (by omega)) ht (by omega)).mono (l := k + 3 + 2 * i) (m := n) (by omega) (by omega)) (by
          have : n * i ≤ 1000 * 1000 := Nat.mul_le_mul (by omega) (by omega)
          omega)
        exact h.mono (l := k + 3 + 2 * (i + 1)) (m := n * (i + 1)) (by omega) (by rw [Nat.mul_add]; omega))
      obtain ⟨aq, cq, rfl⟩ := h2.form
      obtain ⟨nq, hnq⟩ : ∃ n, n = (ofP q).length := ⟨_, rfl⟩
      rw [← hnq] at CS h1 H2
      obtain ⟨aa, ca, rfl⟩ := HAN.out.form
      clear HAN
      obtain ⟨na, hna⟩ : ∃ n, n = (ofP acc).length := ⟨_, rfl⟩
      rw [← hna] at HA ⊢
      have hq7 : (i : Int) < (N : Int) := by omega
      clear h2 hq hq2 hx fq hnq hna
      by_cases hi0 : i = 0
      · subst hi0
        rw [Nat.add_zero] at h1
        have HXA := hid (Ext.refl wr)
        have CO := hid (whole_of 1 wr (by decide))
        rw [if_pos rfl] at CS
        go_wp2_with fail
        with_reducible refine CO.out.mono ?_
        rintro e w2 ⟨v2, rfl, ⟨vz, rfl, hz⟩, hx2⟩
        have HX2 := hid (HXA.out.trans hx2)
        have CS2 := hid (CS.out w2 (.agg #[.bool (ofI 1).neg, vz]) (.slice none 0 0) (HXA.out.trans hx2) ⟨_, rfl, hz.to (Kept.refl _ _) New.lt⟩ (Pows.empty _ _ _))
        obtain ⟨az, cz, rfl⟩ := hz.form
        obtain ⟨nz, hnz⟩ : ∃ n, n = (ofI 1).mag.length := ⟨_, rfl⟩
        obtain ⟨bz, hbz⟩ : ∃ n, n = (ofI 1).neg := ⟨_, rfl⟩
        rw [← hnz, ← hbz] at CS2 ⊢
        clear hz hx2 hnz hbz
        cases ht : timesP q (powP x 0) with
        | none =>
          rw [ht] at CS2
          have HNO : Hid (o = none) := hid (by rw [HBA.out, ht])
          clear ht
          go_wp2_with fail
          with_reducible refine CS2.out.mono ?_
          rintro e w3 ⟨rfl, hx3⟩
          have HX3 := hid (HX1.out.trans (HX.out.trans (HX2.out.trans hx3)))
          clear hx3
          go_wp2
          all_goals
            go_ret2
            rw [HNO.out]
            exact ⟨rfl, HX3.out⟩
        | some X =>
          rw [ht] at CS2
          have HYES := hid HBA.out
          rw [ht] at HYES
          have CA2 := hid (fun (Y : World) (va vb : Value) (ha : PV Y va acc) (hb : PV Y vb X) => CA.out Y va vb X ht ha hb)
          have CB2 := hid (CB.out X ht)
          clear ht
          go_wp2_with fail
          with_reducible refine CS2.out.mono ?_
          rintro e w3 ⟨v3, rfl, hp3, hx3⟩
          have HX3 := hid (HX2.out.trans hx3)
          have CA3 := hid (CA2.out w3 _ v3 (Terms.on HA.out (HX2.out.trans hx3)) (hp3.to (Kept.refl _ _) New.lt))
          obtain ⟨a3, c3, rfl⟩ := hp3.form
          obtain ⟨n3, hn3⟩ : ∃ n, n = (ofP X).length := ⟨_, rfl⟩
          rw [← hn3] at CA3 ⊢
          clear hp3 hx3 hn3
          go_wp2_with fail
          with_reducible refine CA3.out.mono ?_
          rintro e w4 ⟨v4, rfl, hp4, hx4⟩
          have HX4 := hid (HX.out.trans (HX3.out.trans hx4))
          have HP4 := hid (hp4.to (S' := New W w4) (Kept.refl _ _) (fun k h => ⟨Nat.le_trans (HX1.out.trans (HX.out.trans HX3.out)).size h.1, h.2⟩))
          clear hp4 hx4
          go_wp2
          go_roundw
          case rel => exact ⟨1, normP (acc ++ X), by omega, by go_num, HX4.out, HP4, CB2, hid HYES.out.symm⟩
          case measure => simp only [intOf]; omega
      · have q8 : decide ((0 : Int) < (i : Int)) = true := decide_eq_true (by omega)
        have q9 : decide (0 < i) = true := decide_eq_true (by omega)
        have HM0 := hid (one_pows (w := wr) (v := x) (e := (i : Int)) HXI.out (by unfold inI64; omega) 104)
        have HXA := hid (Ext.alloc (Ext.refl wr) (.cells #[.int .i64 x, .int .i64 (i : Int)] 104))
        have CO := hid (whole_of 1 (wr.alloc (.cells #[.int .i64 x, .int .i64 (i : Int)] 104)) (by decide))
        rw [if_neg hi0] at CS
        clear hi0
        go_wp2_with fail
        with_reducible refine CO.out.mono ?_
        rintro e w2 ⟨v2, rfl, ⟨vz, rfl, hz⟩, hx2⟩
        have HX2 := hid (HXA.out.trans hx2)
        have CS2 := hid (CS.out w2 (.agg #[.bool (ofI 1).neg, vz]) (.slice (some ⟨wr.heap.size, 0, none⟩) 1 1) (HXA.out.trans hx2) ⟨_, rfl, hz.to (Kept.refl _ _) New.lt⟩ (HM0.out.on hx2))
        obtain ⟨az, cz, rfl⟩ := hz.form
        obtain ⟨nz, hnz⟩ : ∃ n, n = (ofI 1).mag.length := ⟨_, rfl⟩
        obtain ⟨bz, hbz⟩ : ∃ n, n = (ofI 1).neg := ⟨_, rfl⟩
        rw [← hnz, ← hbz] at CS2 ⊢
        clear hz hx2 hnz hbz
        cases ht : timesP q (powP x i) with
        | none =>
          rw [ht] at CS2
          have HNO : Hid (o = none) := hid (by rw [HBA.out, ht])
          clear ht
          go_wp2_with fail
          with_reducible refine CS2.out.mono ?_
          rintro e w3 ⟨rfl, hx3⟩
          have HX3 := hid (HX1.out.trans (HX.out.trans (HX2.out.trans hx3)))
          clear hx3
          go_wp2
          all_goals
            go_ret2
            rw [HNO.out]
            exact ⟨rfl, HX3.out⟩
        | some X =>
          rw [ht] at CS2
          have HYES := hid HBA.out
          rw [ht] at HYES
          have CA2 := hid (fun (Y : World) (va vb : Value) (ha : PV Y va acc) (hb : PV Y vb X) => CA.out Y va vb X ht ha hb)
          have CB2 := hid (CB.out X ht)
          clear ht
          go_wp2_with fail
          with_reducible refine CS2.out.mono ?_
          rintro e w3 ⟨v3, rfl, hp3, hx3⟩
          have HX3 := hid (HX2.out.trans hx3)
          have CA3 := hid (CA2.out w3 _ v3 (Terms.on HA.out (HX2.out.trans hx3)) (hp3.to (Kept.refl _ _) New.lt))
          obtain ⟨a3, c3, rfl⟩ := hp3.form
          obtain ⟨n3, hn3⟩ : ∃ n, n = (ofP X).length := ⟨_, rfl⟩
          rw [← hn3] at CA3 ⊢
          clear hp3 hx3 hn3
          go_wp2_with fail
          with_reducible refine CA3.out.mono ?_
          rintro e w4 ⟨v4, rfl, hp4, hx4⟩
          have HX4 := hid (HX.out.trans (HX3.out.trans hx4))
          have HP4 := hid (hp4.to (S' := New W w4) (Kept.refl _ _) (fun k h => ⟨Nat.le_trans (HX1.out.trans (HX.out.trans HX3.out)).size h.1, h.2⟩))
          clear hp4 hx4
          go_wp2
          go_roundw
          case rel => exact ⟨i + 1, normP (acc ++ X), by omega, by go_num, HX4.out, HP4, CB2, hid HYES.out.symm⟩
          case measure => simp only [intOf]; omega
    · obtain rfl : N = i := by omega
      have HE : Hid (o = some acc) := hid (by
        have h := HB.out
        rw [List.drop_of_length_le (by rw [← HN.out]; exact Nat.le_refl _)] at h
        exact h.symm)
      obtain ⟨aa, ca, rfl⟩ := HAN.out.form
      clear hx
      go_wp2
      all_goals
        go_ret2
        rw [HE.out]
        exact ⟨_, rfl, HAN.out, HX1.out.trans HX.out⟩
end Go.Proofs.YthplgldclilccaaGreat

namespace Go.Proofs.YthplgldclilccaaGreat
open Go.RowKit

set_option maxRecDepth 100000 in
set_option maxHeartbeats 4000000 in
theorem build_no {W : World} {vl : Value} {ls : List (List RTerm)} {x : Int} (hl : Polys (Old W) W vl ls) (hrl : smallL ls) (hlen : ls.length ≤ 1000) (hno : ¬ ((1 ≤ x ∧ x ≤ 200) ∧ ls.all mayT = true)) :
    Calls Tryz.prog 37 #[vl, .int .i64 x] W (ErrPoly W 2) := by
  unfold ErrPoly
  have HX0 := hid (Ext.refl W)
  have CC := build_contains (S := Old W) vl ls W hl (fun _ h => h) hrl
  obtain ⟨al, cl, rfl⟩ := hl.form
  obtain ⟨N, hN⟩ : ∃ n, n = ls.length := ⟨_, rfl⟩
  rw [← hN] at CC hlen ⊢
  have q3 : decide ((10001 : Int) < (N : Int)) = false := decide_eq_false (by omega)
  have q6 : ¬ (10001 : Int) < (N : Int) := by omega
  by_cases h1 : x < 1
  · have q1 : decide (x < 1) = true := decide_eq_true h1
    clear hl hrl CC hN hno
    go_enter Tryz.func37, Tryz.ntmps37
    go_wp2
    all_goals
      go_ret2
      exact ⟨rfl, HX0.out⟩
  · have q1 : decide (x < 1) = false := decide_eq_false h1
    by_cases h2 : 200 < x
    · have q2 : decide (200 < x) = true := decide_eq_true h2
      clear hl hrl CC hN hno
      go_enter Tryz.func37, Tryz.ntmps37
      go_wp2
      all_goals
        go_ret2
        exact ⟨rfl, HX0.out⟩
    · have q2 : decide (200 < x) = false := decide_eq_false h2
      have hm : ls.all mayT = false := by
        cases hm : ls.all mayT with
        | false => rfl
        | true => exact absurd ⟨⟨by omega, by omega⟩, hm⟩ hno
      rw [hm] at CC
      have HCC := hid CC
      clear hl hrl CC hN hno hm
      go_enter Tryz.func37, Tryz.ntmps37
      go_wp2_with fail
      with_reducible refine HCC.out.mono ?_
      rintro e w1 ⟨rfl, hx1⟩
      have HX1 := hid hx1
      clear hx1
      go_wp2
      all_goals
        go_ret2
        exact ⟨rfl, HX1.out⟩

set_option maxRecDepth 100000 in
set_option maxHeartbeats 4000000 in
theorem coefs_no {W : World} {u : Value} {ts : List RTerm} {x : Int} (hp : Terms (Old W) W u ts) (hr : smallT ts) (hno : ¬ ((1 ≤ x ∧ x ≤ 200) ∧ mayT ts = true)) :
    Calls Tryz.prog 39 #[u, .int .i64 x] W fun e w' => e = .returned (.slice none 0 0) ∧ Ext W w' := by
  have CP := hid (view_plain u ts W hp (fun _ h => h) hr)
  obtain ⟨np, hnp⟩ : ∃ n, n = (plainT ts).length := ⟨_, rfl⟩
  have h0 : np = 0 ∨ (x < 1 ∨ 200 < x) := by
    cases hm : mayT ts with
    | false => exact .inl (by rw [hnp]; unfold plainT; rw [hm]; rfl)
    | true =>
      by_cases hx : 1 ≤ x ∧ x ≤ 200
      · exact absurd ⟨hx, hm⟩ hno
      · right; omega
  have HNP := hid hnp
  obtain ⟨ap, cp, rfl⟩ := hp.form
  clear hp hr hno hnp
  by_cases hz : np = 0
  · subst hz
    clear h0
    go_enter Tryz.func39, Tryz.ntmps39
    go_wp2_with fail
    with_reducible refine CP.out.mono ?_
    rintro e w1 ⟨v1, rfl, hp1, hx1⟩
    have HX1 := hid hx1
    obtain ⟨a1, c1, rfl⟩ := hp1.form
    rw [← HNP.out]
    clear hp1 hx1
    go_wp2
    all_goals
      go_ret
      exact ⟨rfl, HX1.out⟩
  · have hb : ((np : Int) == 0) = false := by rw [beq_eq_false_iff_ne]; omega
    by_cases h1 : x < 1
    · have q1 : decide (x < 1) = true := decide_eq_true h1
      clear h0
      go_enter Tryz.func39, Tryz.ntmps39
      go_wp2_with fail
      with_reducible refine CP.out.mono ?_
      rintro e w1 ⟨v1, rfl, hp1, hx1⟩
      have HX1 := hid hx1
      obtain ⟨a1, c1, rfl⟩ := hp1.form
      rw [← HNP.out]
      clear hp1 hx1
      go_wp2
      all_goals
        go_ret
        exact ⟨rfl, HX1.out⟩
    · have h2 : 200 < x := by omega
      have q1 : decide (x < 1) = false := decide_eq_false h1
      have q2 : decide (200 < x) = true := decide_eq_true h2
      clear h0
      go_enter Tryz.func39, Tryz.ntmps39
      go_wp2_with fail
      with_reducible refine CP.out.mono ?_
      rintro e w1 ⟨v1, rfl, hp1, hx1⟩
      have HX1 := hid hx1
      obtain ⟨a1, c1, rfl⟩ := hp1.form
      rw [← HNP.out]
      clear hp1 hx1
      go_wp2
      all_goals
        go_ret
        exact ⟨rfl, HX1.out⟩
end Go.Proofs.YthplgldclilccaaGreat

namespace Go.Proofs.YthplgldclilccaaGreat
open Go.RowKit

set_option maxRecDepth 100000 in
set_option maxHeartbeats 4000000 in
theorem zed_neg {S : Nat → Prop} (vd : Value) (x : Int) (w : World) (hd : Digs S w vd (rep 10 x.natAbs)) :
    Calls Tryz.prog 136 #[.agg #[.bool (decide (x < 0)), vd]] w fun e w' => e = .returned (.agg #[.bool (decide (-x < 0)), vd]) ∧ Ext w w' := by
  obtain ⟨a, c, rfl⟩ := hd.form
  have hlen := rep10_pos x.natAbs
  obtain ⟨n, hn⟩ : ∃ n, n = (rep 10 x.natAbs).length := ⟨_, rfl⟩
  rw [← hn] at hlen ⊢
  have hl := hd.len_le
  rw [← hn] at hl
  have hpos : decide (0 < n) = decide (x ≠ 0) := by rw [hlen, decide_eq_decide]; omega
  have HPOS := hid hpos
  clear hd hn hlen hpos
  rcases (show x < 0 ∨ x = 0 ∨ 0 < x by omega) with hx | hx | hx
  · have e1 : decide (x < 0) = true := decide_eq_true hx
    have E2 : Hid (decide (-x < 0) = false) := hid (decide_eq_false (by omega))
    rw [e1]
    clear hx e1 hl
    go_enter Tryz.func136, Tryz.ntmps136
    go_wp2
    all_goals
      refine bodyPost_ret (by simp [results, Tryz.results136, go_sem]; rfl) rfl ?_
      exact ⟨by rw [E2.out], Ext.alloc (Ext.alloc (Ext.refl w) _) _⟩
  · subst hx
    have hn0 : n = 0 := by have := HPOS.out; simpa using this
    subst hn0
    have e1 : decide ((0 : Int) < 0) = false := by decide
    have E2 : Hid (decide (-(0 : Int) < 0) = false) := hid (by decide)
    rw [e1]
    clear e1 hl
    go_enter Tryz.func136, Tryz.ntmps136
    go_wp2
    all_goals
      refine bodyPost_ret (by simp [results, Tryz.results136, go_sem]; rfl) rfl ?_
      exact ⟨by rw [E2.out], Ext.alloc (Ext.alloc (Ext.refl w) _) _⟩
  · have e1 : decide (x < 0) = false := decide_eq_false (by omega)
    have E2 : Hid (decide (-x < 0) = true) := hid (decide_eq_true (by omega))
    have hn0 : 0 < n := by
      have := HPOS.out
      rw [decide_eq_decide] at this
      exact this.2 (by omega)
    rw [e1]
    clear hx e1
    go_enter Tryz.func136, Tryz.ntmps136
    go_wp2
    all_goals
      refine bodyPost_ret (by simp [results, Tryz.results136, go_sem]; rfl) rfl ?_
      exact ⟨by rw [E2.out], Ext.alloc (Ext.alloc (Ext.refl w) _) _⟩

def negP (p : PZ) : PZ := p.map fun t => (-t.1, t.2)
theorem negP_at {p : PZ} {k : Nat} {t : Int × Mono} (h : p[k]? = some t) : negP (p.take (k + 1)) = negP (p.take k) ++ [(-t.1, t.2)] := by
  rw [List.take_add_one, h]
  unfold negP
  rw [List.map_append]
  rfl
theorem negP_length (p : PZ) : (negP p).length = p.length := by unfold negP; rw [List.length_map]
theorem negP_may {p : PZ} (h : mayAll p) : mayAll (negP p) := fun t ht => by
  obtain ⟨u, hu, rfl⟩ := List.mem_map.1 ht
  exact h u hu
theorem szZ_neg {x : Int} (h : szZ x) : szZ (-x) := by unfold szZ; rw [Int.natAbs_neg]; exact h
theorem negP_sz {p : PZ} (h : szP p) : szP (negP p) := ⟨by rw [negP_length]; exact h.1, fun t ht => by
  obtain ⟨u, hu, rfl⟩ := List.mem_map.1 ht
  exact szZ_neg (h.2 u hu)⟩

set_option maxRecDepth 100000 in
set_option maxHeartbeats 8000000 in
theorem rpoly_neg {S : Nat → Prop} (v : Value) (p : PZ) (w : World) (h : RTs S w v p) (hS : ∀ k, S k → k < w.heap.size) (hsz : szP p) :
    Calls Tryz.prog 112 #[v] w fun e w' => ∃ v', e = .returned v' ∧ RTs (Plus S w w') w' v' (negP p) ∧ Ext w w' := by
  obtain ⟨j0, hj, jz0, jz1, jz2⟩ := info_parts Tryz.infoT
  have hl := h.len_le
  have H := hid h
  have HSZ := hid hsz
  obtain ⟨a, cap, rfl⟩ := h.form
  clear h hsz
  go_enter Tryz.func112, Tryz.ntmps112
  go_wp2
  go_loopw [3, 4] (fun o i wr => ∃ k xs, k ≤ p.length ∧ i = .int .i64 (k : Nat) ∧ Ext w wr ∧ Hid (wr.ownsRow w.heap.size 89 3 o k xs) ∧ Hid (Cells3 S w xs (negP (p.take k)))) (fun _ i _ => p.length - (intOf i).toNat)
  case atStart => exact ⟨0, [], Nat.zero_le _, rfl, Ext.refl _, hid (World.ownsRow_nil _ _ _ _), hid rfl⟩
  case round =>
    obtain ⟨k, xs, hk, rfl, hx, HW, HXS⟩ := hrel
    have HX := hid hx
    by_cases hlt : k < p.length
    · obtain ⟨t, ht⟩ := some_of_lt hlt
      obtain ⟨b, off, vd, vo, rfl, -, hn1, hm1, hSb, h1, h2, h3, h4, h5⟩ := H.out.cellAt ht
      have HT := hid (negP_at ht)
      have H4 := hid h4
      have H5 := hid h5
      obtain ⟨ad, cd, rfl⟩ := h4.form
      obtain ⟨ao, co, rfl⟩ := h5.form
      have x0 : Ext w wr.drew := hx.drew
      have HX0 := hid x0
      have h0 : _ ∧ _ ∧ _ := And.intro h1 (And.intro h2 h3)
      have c1 := fun (W : World) (hW : Ext w W) => zed_neg (S := S) (.slice ad (rep 10 t.1.natAbs).length cd) t.1 W (H4.out.ext hW hS)
      obtain ⟨bt, hbt⟩ : ∃ b, b = decide (t.1 < 0) := ⟨_, rfl⟩
      obtain ⟨bn, hbn⟩ : ∃ b, b = decide (-t.1 < 0) := ⟨_, rfl⟩
      obtain ⟨nt, hnt⟩ : ∃ n, n = (rep 10 t.1.natAbs).length := ⟨_, rfl⟩
      obtain ⟨nm, hnm⟩ : ∃ n, n = t.2.length := ⟨_, rfl⟩
      have HBN := hid hbn
      rw [← hbt, ← hnt, ← hnm] at h0
      rw [← hbt, ← hnt, ← hbn] at c1
      rw [← hnm] at H5
      rw [← hnt] at H4
      have S0 : _ ∧ _ ∧ _ := And.intro (x0.cell h0.1) (And.intro (x0.cell h0.2.1) (x0.cell h0.2.2))
      have C1 := hid (c1 wr.drew x0)
      have HB3 : Hid (k + 1 ≤ maxLen) := hid (by have := HSZ.out.1; unfold maxLen; omega)
      have HB4 : Hid ((k + 1) * 56 ≤ 140737488355328) := hid (by have := HSZ.out.1; omega)
      have HWR := hid (own_ext HW.out ((Ext.refl wr).drew))
      have HC0 := hid h0
      clear ht h0 h1 h2 h3 h4 h5 hx x0 c1 hbt hnt hnm hbn
      go_wp2
      go_region_held3 (fun W => W.cell? ⟨b, off + k * 3, none⟩ = some (.bool bt) ∧ W.cell? ⟨b, off + k * 3 + 1, none⟩ = some (.slice ad nt cd) ∧ W.cell? ⟨b, off + k * 3 + 2, none⟩ = some (.slice ao nm co)) (first | exact S0 | exact S1 | exact ⟨cell_old _ S1.1, cell_old _ S1.2.1, cell_old _ S1.2.2⟩ | exact S5)
        (first
          | (go_at_call 136; (with_reducible refine C1.out.mono ?_); rintro e w1 ⟨rfl, hx1⟩; have HX1 := hid (HX0.out.trans hx1); have S1 : _ ∧ _ ∧ _ := And.intro (hx1.cell S0.1) (And.intro (hx1.cell S0.2.1) (hx1.cell S0.2.2)); have HW3 := hid (own_ext (own_ext HWR.out hx1) (Ext.alloc (Ext.refl w1) (.cells #[.bool bn, .slice ad nt cd, .slice ao nm co] 89))); have HSRC3 := hid (src_one w1 #[.bool bn, .slice ad nt cd, .slice ao nm co] 89 (three_cell rfl rfl rfl) (size := 3) rfl); have HB5 := hid (HX1.out.alloc (.cells #[.bool bn, .slice ad nt cd, .slice ao nm co] 89)).size; clear hx1)
          | (refine step_append_src rfl (.tmp 11) (.tmp 24) 36 rfl w.heap.size 89 j0 (.agg #[.bool false, .slice none 0 0, .slice none 0 0]) 3 56 Tryz.underlying36 hj jz0 jz1 jz2 rfl (Nat.succ_pos _) _ k xs rfl HW3.out (some ⟨w1.heap.size, 0, none⟩) 1 1 _ rfl HSRC3.out HB3.out HB4.out HB5.out ?_; intro v5 w5 hown hg hbk; have HW5 := hid hown; have HX5 := hid (own_grown0 (HX1.out.alloc (.cells #[.bool bn, .slice ad nt cd, .slice ao nm co] 89)) HW3.out hg); have S5 : _ ∧ _ ∧ _ := And.intro (HX5.out.cell HC0.out.1) (And.intro (HX5.out.cell HC0.out.2.1) (HX5.out.cell HC0.out.2.2)); clear hown hg hbk))
      all_goals
        go_wp2
        go_roundw
        case rel =>
          refine ⟨k + 1, xs ++ (#[.bool bn, .slice ad nt cd, .slice ao nm co] : Array Value).toList, by omega, by go_num, HX5.out, HW5, hid ?_⟩
          rw [HT.out]
          have hone : Cells3 S w (#[.bool bn, .slice ad nt cd, .slice ao nm co] : Array Value).toList [(-t.1, t.2)] := by
            rw [HBN.out]
            exact Cells3.single (t := (-t.1, t.2)) (by rw [Int.natAbs_neg]; exact H4.out) H5.out
          exact HXS.out.append hone
        case measure => simp only [intOf]; omega
    · obtain rfl : k = p.length := by omega
      have HE : Hid (p.take p.length = p) := hid List.take_length
      clear hx
      go_wp2
      all_goals
        go_ret
        refine ⟨_, rfl, ?_, HX.out⟩
        have hc := HXS.out
        rw [HE.out] at hc
        exact own_rts (by rw [negP_length]; exact HW.out) (hc.to (Kept.ext HX.out hS) (fun _ h => .inl h)) (fun k h1 h2 => .inr ⟨h1, h2⟩)

set_option maxRecDepth 100000 in
set_option maxHeartbeats 4000000 in
theorem rpoly_sub {S : Nat → Prop} (vp vq : Value) (p q : PZ) (w : World) (hS : ∀ k, S k → k < w.heap.size) (hp : RTs S w vp p) (hq : RTs S w vq q) (hmp : mayAll p) (hmq : mayAll q) (hszq : szP q) (hsz : ∀ k, k ≤ q.length → szP (addP p ((negP q).take k))) :
    Calls Tryz.prog 71 #[vp, vq] w fun e w' => ∃ v', e = .returned v' ∧ RTs (Plus S w w') w' v' (addP p (negP q)) ∧ Ext w w' := by
  have C1 := hid (rpoly_neg vq q w hq hS hszq)
  have C2 := hid (fun (v1 : Value) (w1 : World) (hx1 : Ext w w1) (h1 : RTs (Plus S w w1) w1 v1 (negP q)) => rpoly_add (S := Plus S w w1) vp v1 p (negP q) w1 (plus_lt hS hx1) ((hp.ext hx1 hS).to (Kept.refl _ _) (fun _ h => .inl h)) h1 hmp (negP_may hmq) (negP_sz hszq) (fun k hk => hsz k (by rw [negP_length] at hk; exact hk)))
  clear hp hq hmp hmq hszq hsz
  go_enter Tryz.func71, Tryz.ntmps71
  go_wp2_with fail
  refine C1.out.mono ?_
  rintro e w1 ⟨v1, rfl, hp1, hx1⟩
  have HX1 := hid hx1
  have HP1 := hid hp1
  have C3 := hid (C2.out v1 w1 hx1 hp1)
  clear hx1 hp1 C2
  go_wp2_with fail
  refine C3.out.mono ?_
  rintro e w2 ⟨v2, rfl, hp2, hx2⟩
  have HX2 := hid (HX1.out.trans hx2)
  have HP2 := hid (hp2.to (Kept.refl _ _) (plus_plus HX1.out hx2))
  clear hx2 hp2
  go_wp2
  all_goals
    go_ret
    exact ⟨_, rfl, HP2.out, HX2.out⟩
end Go.Proofs.YthplgldclilccaaGreat

namespace Go.Proofs.YthplgldclilccaaGreat
open Go.RowKit

def zeroF (a : Mono) (q : Nat) : Nat → Int := fun j => if j = q then 0 else ex a (j : Nat)
theorem ofE_without {a : Mono} (h : mayM a = true) (q : Nat) : ofE (zeroF a q) 200 = withoutM a (q : Nat) := by
  have h0 : ∀ j, 0 ≤ zeroF a q j := fun j => by
    unfold zeroF
    have := ex_nonneg h (j : Nat)
    split <;> omega
  have hr : ∀ j, zeroF a q j ≤ 10000 := fun j => by
    unfold zeroF
    have := (ex_range h (j : Nat)).2
    split <;> omega
  refine mayM_ext (ofE_may (Nat.le_refl _) (fun j _ _ => hr j)) (mayM_without h _) (fun k h2 h3 => ?_)
  rw [ofE_ex _ _ _ h0, if_pos ⟨h2, h3⟩, ex_without]
  unfold zeroF
  by_cases e : k = q
  · subst e; rw [if_pos rfl, if_pos rfl]
  · rw [if_neg e, if_neg (by omega)]

theorem zero_row {w : World} {g : Nat} {T : TypeId} {a : Mono} {q : Nat} (h : w.rowIs g T 201 (iv fun v => ex a (v : Nat))) : (w.setCell ⟨g, q, none⟩ (.int .i64 0)).rowIs g T 201 (iv (zeroF a q)) :=
  (World.rowIs.set h q (.int .i64 0)).congr (fun i _ => by
    unfold iv zeroF
    by_cases e : i = q
    · rw [if_pos e, if_pos e]
    · rw [if_neg e, if_neg e])

set_option maxRecDepth 100000 in
set_option maxHeartbeats 4000000 in
theorem rmono_without {S : Nat → Prop} (va : Value) (a : Mono) (x : Int) (w : World) (ha : Pows S w va a) (hS : ∀ k, S k → k < w.heap.size) (hma : mayM a = true) (hx : 1 ≤ x ∧ x ≤ 200) :
    Calls Tryz.prog 59 #[va, .int .i64 x] w fun e w' => ∃ v', e = .returned v' ∧ Pows (New w w') w' v' (withoutM a x) ∧ Ext w w' := by
  have hz := (zero_of_info Tryz.infoArr).1
  have hcs : (Value.agg (tabA fun _ => 0)).cells = tabA fun _ => 0 := rfl
  have HA := hid ha
  have HMA := hid hma
  obtain ⟨aa, ca, rfl⟩ := ha.form
  have EA : Hid (exF a = fun v => ex a (v : Nat)) := hid (by funext v; unfold exF; rw [plainM_yes hma])
  obtain ⟨q, hq⟩ : ∃ q : Nat, (q : Int) = x := ⟨x.toNat, by omega⟩
  subst hq
  have HE := hid (ofE_without hma q)
  have hq1 : (1 : Int) ≤ (q : Int) := hx.1
  have hq2 : (q : Int) ≤ 200 := hx.2
  have q1 : decide ((1 : Int) ≤ (q : Int)) = true := decide_eq_true hq1
  have q2 : decide ((q : Int) ≤ 200) = true := decide_eq_true hq2
  have q3 : (0 : Int) ≤ (q : Int) := by omega
  have q4 : (q : Int) < 201 := by omega
  have q5 : q < 201 := by omega
  clear ha hma hx
  go_enter Tryz.func59, Tryz.ntmps59
  go_wp2_with fail
  refine (rmono_exps _ a w HA.out hS).mono ?_
  rintro e w1 ⟨rfl, hx1⟩
  have HX1 := hid hx1
  clear hx1
  rw [EA.out]
  go_wp2_with (first
    | (refine wpList_store_arr rfl (.tmp 5) (.tmp 7) rfl rfl rfl (row_new (fun _ => 0) w1) ?_; intro w4 hrow hg; have HRA := hid (zero_row (q := q) hrow); have HG := hid hg; have hcq := hrow.cell (i := q) q5; have hfq := hrow.frozen q; unfold iv at hcq; clear hrow hg)
    | (refine wpList_load_arr rfl (.tmp 5) rfl rfl HRA.out ?_))
  have HX4 : Hid (Ext w (w4.setCell ⟨w1.heap.size, q, none⟩ (.int .i64 0))) := hid ((ext_grown (HX1.out.alloc _) HG.out (fun k hk => Nat.le_trans HX1.out.size (row_le hk))).setCell (p := ⟨w1.heap.size, q, none⟩) HX1.out.size _)
  refine (rmono_of (zeroF a q) (w4.setCell ⟨w1.heap.size, q, none⟩ (.int .i64 0)) (fun j => by
    have := ex_range HMA.out (j : Nat)
    unfold zeroF
    split <;> omega)).mono ?_
  rintro e w7 ⟨v7, rfl, hp, hx7⟩
  rw [HE.out] at hp
  have HX7 := hid hx7
  have HP7 := hid hp
  clear hp hx7
  go_wp2
  all_goals
    go_ret
    exact ⟨_, rfl, HP7.out.to (Kept.refl _ _) (New.mono HX4.out), HX4.out.trans HX7.out⟩
end Go.Proofs.YthplgldclilccaaGreat

namespace Go.Proofs.YthplgldclilccaaGreat
open Go.RowKit

theorem num_one (x : Int) : numP 1 = powP x 0 := rfl
/-- one term in a block of its own -/
theorem rts_one {S : Nat → Prop} {w : World} {T : TypeId} {vd vo : Value} {c : Int} {m : Mono} (hS : ∀ k, S k → k < w.heap.size) (hd : Digs S w vd (rep 10 c.natAbs)) (hm : Pows S w vo m) :
    RTs (fun k => S k ∨ k = w.heap.size) (w.alloc (.cells #[.bool (decide (c < 0)), vd, vo] T)) (.slice (some ⟨w.heap.size, 0, none⟩) 1 1) [(c, m)] := by
  have x2 : Ext w (w.alloc (.cells #[.bool (decide (c < 0)), vd, vo] T)) := Ext.alloc (Ext.refl w) _
  refine ⟨w.heap.size, 0, ⟨_, 1, rfl, Nat.le_refl _, by decide, fun _ => rfl, fun _ => .inr rfl⟩, fun j t hj => ?_⟩
  have hj0 : j = 0 := by have := lt_of_some hj; simp at this; exact this
  subst hj0
  obtain rfl : (c, m) = t := by simpa using hj
  exact ⟨vd, vo, cell_new _ _ _ rfl rfl, cell_new _ _ _ rfl rfl, cell_new _ _ _ rfl rfl, hd.to (Kept.ext x2 hS) (fun _ h => .inl h), hm.to (Kept.ext x2 hS) (fun _ h => .inl h)⟩

set_option maxRecDepth 100000 in
set_option maxHeartbeats 4000000 in
theorem rview_power (x : Int) (i : Nat) (w : World) (hx : inI64 x) (hi : i ≤ 10000) :
    Calls Tryz.prog 62 #[.int .i64 x, .int .i64 (i : Nat)] w fun e w' => ∃ v', e = .returned v' ∧ RTs (New w w') w' v' (powP x i) ∧ Ext w w' := by
  have C1 := hid (zed_small 1 w (by omega))
  have C0 := hid (rpoly_small 1 w (by omega))
  have HXX := hid hx
  clear hx
  by_cases h0 : i = 0
  · subst h0
    go_enter Tryz.func62, Tryz.ntmps62
    go_wp2_with fail
    refine C0.out.mono ?_
    rintro e w1 ⟨v1, rfl, hp1, hx1⟩
    rw [num_one x] at hp1
    have HP1 := hid hp1
    have HX1 := hid hx1
    clear hp1 hx1
    go_wp2
    all_goals
      go_ret
      exact ⟨_, rfl, HP1.out, HX1.out⟩
  · have hin : Hid (inI64 (i : Int)) := hid (by unfold inI64; omega)
    have hib : ((i : Int) == 0) = false := by rw [beq_eq_false_iff_ne]; omega
    have HPW : Hid (powP x i = [(1, [(x, (i : Int))])]) := hid (by unfold powP; rw [if_neg h0])
    go_enter Tryz.func62, Tryz.ntmps62
    go_wp2_with fail
    refine C1.out.mono ?_
    rintro e w1 ⟨v1, rfl, hz1, hx1⟩
    obtain ⟨vd, rfl, hd⟩ := hz1
    have HX1 := hid hx1
    have HD := hid hd
    obtain ⟨ad, cd, rfl⟩ := hd.form
    obtain ⟨nd, hnd⟩ : ∃ n, n = (rep 10 ((1 : Nat) : Int).natAbs).length := ⟨_, rfl⟩
    obtain ⟨bd, hbd⟩ : ∃ b, b = decide (((1 : Nat) : Int) < 0) := ⟨_, rfl⟩
    rw [← hnd] at HD ⊢
    rw [← hbd]
    have HB := hid hbd
    clear hx1 hd hnd hbd
    go_wp2
    go_ret
    have x1 : Ext w1 (w1.alloc (.cells #[.int .i64 x, .int .i64 (i : Nat)] 104)) := Ext.alloc (Ext.refl w1) _
    have hb : (w1.alloc (.cells #[.int .i64 x, .int .i64 (i : Nat)] 104)).heap.size = w1.heap.size + 1 := size_alloc _ _
    have hm : Pows (New w (w1.alloc (.cells #[.int .i64 x, .int .i64 (i : Nat)] 104))) (w1.alloc (.cells #[.int .i64 x, .int .i64 (i : Nat)] 104)) (.slice (some ⟨w1.heap.size, 0, none⟩) 1 1) [(x, (i : Int))] := by
      refine ⟨w1.heap.size, 0, ⟨_, 1, rfl, Nat.le_refl _, by decide, fun _ => rfl, fun _ => ⟨HX1.out.size, by rw [hb] <;> omega⟩⟩, fun j t hj => ?_⟩
      have hj0 : j = 0 := by have := lt_of_some hj; simp at this; exact this
      subst hj0
      obtain rfl : (x, (i : Int)) = t := by simpa using hj
      exact ⟨⟨HXX.out, hin.out⟩, cell_new _ _ _ rfl rfl, cell_new _ _ _ rfl rfl⟩
    have hone := rts_one (S := New w (w1.alloc (.cells #[.int .i64 x, .int .i64 (i : Nat)] 104))) (T := 89) (c := 1) (fun k hk => hk.2) (HD.out.to (Kept.ext x1 (fun _ h => h.2)) (fun k h => ⟨h.1, Nat.lt_of_lt_of_le h.2 x1.size⟩)) hm
    rw [HPW.out, HB.out]
    refine ⟨_, rfl, ?_, (HX1.out.trans x1).trans (Ext.alloc (Ext.refl _) _)⟩
    refine RTs.to (w := _) ?_ (Kept.refl _ _) (fun k hk => ?_) (S := fun k => New w (w1.alloc (.cells #[.int .i64 x, .int .i64 (i : Nat)] 104)) k ∨ k = w1.heap.size + 1)
    · rw [hb] at hone
      exact hone
    · unfold New
      simp only [size_alloc]
      rcases hk with h | rfl
      · have h2 := h.2
        rw [hb] at h2
        exact ⟨h.1, Nat.lt_succ_of_lt h2⟩
      · exact ⟨Nat.le_succ_of_le HX1.out.size, Nat.lt_succ_self _⟩

theorem coef_yes {p : PZ} (h : canP p) {k : Nat} {t : Int × Mono} {x d : Int} (ht : p[k]? = some t) (hd : ex t.2 x = d) : addP (coefP (p.take k) x d) [(t.1, withoutM t.2 x)] = coefP (p.take (k + 1)) x d := by
  have hc := coefP_can (canP_sub h (List.take_sublist k p)) x d
  have hc' := coefP_can (canP_sub h (List.take_sublist (k + 1) p)) x d
  have e : coefP (p.take (k + 1)) x d = coefP (p.take k) x d ++ [(t.1, withoutM t.2 x)] := by
    unfold coefP
    rw [List.take_add_one, ht, List.filterMap_append]
    simp [coefF, hd]
  have hm : mayAll [(t.1, withoutM t.2 x)] := fun u hu => by
    obtain rfl := List.mem_singleton.1 hu
    exact mayM_without (h.may t (List.mem_of_getElem? ht)) x
  rw [addP_eq hc hm, ← e, normP_of_can hc']
theorem coef_no {p : PZ} {k : Nat} {t : Int × Mono} {x d : Int} (ht : p[k]? = some t) (hd : ex t.2 x ≠ d) : coefP (p.take (k + 1)) x d = coefP (p.take k) x d := by
  unfold coefP
  rw [List.take_add_one, ht, List.filterMap_append]
  simp [coefF, hd]
theorem coefP_sz {p : PZ} (h : szP p) (x d : Int) : szP (coefP p x d) := ⟨Nat.le_trans (List.length_filterMap_le _ _) h.1, fun u hu => by
  obtain ⟨t, ht, _, rfl⟩ := coefP_mem hu
  exact h.2 t ht⟩

set_option maxRecDepth 100000 in
set_option maxHeartbeats 8000000 in
theorem rview_coefficient {S : Nat → Prop} (v : Value) (p : PZ) (x d : Int) (w : World) (h : RTs S w v p) (hS : ∀ k, S k → k < w.heap.size) (hc : canP p) (hsz : szP p) (hx : 1 ≤ x ∧ x ≤ 200) (hd : -9223372036854775808 ≤ d ∧ d ≤ 9223372036854775807) :
    Calls Tryz.prog 21 #[v, .int .i64 x, .int .i64 d] w fun e w' => ∃ v', e = .returned v' ∧ RTs (Plus S w w') w' v' (coefP p x d) ∧ Ext w w' := by
  have hl := h.len_le
  have H := hid h
  have HSZ := hid hsz
  have HC := hid hc
  have HX200 := hid hx
  obtain ⟨hx1, hx2⟩ := hx
  obtain ⟨hd1, hd2⟩ := hd
  obtain ⟨a, cap, rfl⟩ := h.form
  clear h hsz hc
  go_enter Tryz.func21, Tryz.ntmps21
  go_wp2
  go_loopw [7, 8] (fun o i wr => ∃ k : Nat, k ≤ p.length ∧ i = .int .i64 k ∧ Ext w wr ∧ Hid (RTs (Plus S w wr) wr o (coefP (p.take k) x d))) (fun _ i _ => p.length - (intOf i).toNat)
  case atStart => exact ⟨0, Nat.zero_le _, rfl, Ext.refl _, hid (RTs.nilv _ _ _ _ (by omega))⟩
  case round =>
    obtain ⟨k, hk, rfl, hx0, HO⟩ := hrel
    have HX := hid hx0
    by_cases hlt : k < p.length
    · obtain ⟨t, ht⟩ := some_of_lt hlt
      obtain ⟨b, off, vd, vo, rfl, -, hn1, hm1, hSb, h1, h2, h3, h4, h5⟩ := H.out.cellAt ht
      have HT := hid ht
      have H4 := hid h4
      have H5 := hid h5
      have HTM := hid (HC.out.may t (List.mem_of_getElem? ht))
      have hr := ex_range HTM.out x
      obtain ⟨ad, cd, rfl⟩ := h4.form
      obtain ⟨ao, co, rfl⟩ := h5.form
      have g3 := hx0.cell h3
      have C1 := fun (W : World) (hW : Ext w W) => rmono_degree (S := S) _ t.2 x W (H5.out.ext hW hS) (lt_ext hS hW) ⟨by omega, by omega⟩
      rw [plainM_yes HTM.out] at C1
      have C2 := fun (W : World) (hW : Ext w W) => rmono_without (S := S) _ t.2 x W (H5.out.ext hW hS) (lt_ext hS hW) HTM.out ⟨hx1, hx2⟩
      have h0 : _ ∧ _ ∧ _ := And.intro h1 (And.intro h2 h3)
      obtain ⟨bt, hbt⟩ : ∃ b, b = decide (t.1 < 0) := ⟨_, rfl⟩
      obtain ⟨nt, hnt⟩ : ∃ n, n = (rep 10 t.1.natAbs).length := ⟨_, rfl⟩
      obtain ⟨nm, hnm⟩ : ∃ n, n = t.2.length := ⟨_, rfl⟩
      obtain ⟨xe, hxe⟩ : ∃ n, n = ex t.2 x := ⟨_, rfl⟩
      have HBT := hid hbt
      have HNT := hid hnt
      have HXE := hid hxe
      rw [← hbt, ← hnt, ← hnm] at h0
      rw [← hnm] at g3 H5 C1 C2
      rw [← hxe] at C1 hr
      rw [← hnt] at H4
      have HC0 := hid h0
      have HC1 := hid C1
      have HC2 := hid C2
      have HSZT := hid (HSZ.out.2 t (List.mem_of_getElem? ht))
      clear ht h0 h1 h2 h3 h4 h5 hx0 C1 C2 hbt hnt hnm hxe
      go_wp2_with fail
      refine (HC1.out wr HX.out).mono ?_
      rintro e w1 ⟨rfl, hx1⟩
      have HX1 := hid (HX.out.trans hx1)
      have HO1 := hid (RTs.later hS HO.out HX.out hx1)
      clear hx1 g3
      by_cases he : xe = d
      · have HE := hid (coef_yes HC.out HT.out (x := x) (d := d) (by rw [← HXE.out]; exact he))
        subst he
        have x0 : Ext w w1.drew := HX1.out.drew
        have HX0 := hid x0
        have S0 : _ ∧ _ ∧ _ := And.intro (x0.cell HC0.out.1) (And.intro (x0.cell HC0.out.2.1) (x0.cell HC0.out.2.2))
        have HC3 := hid (HC2.out w1.drew x0)
        have HO2 := hid (RTs.later hS HO1.out HX1.out ((Ext.refl w1).drew))
        have HSC := hid (coefP_sz (szP_take HSZ.out k) x xe)
        have HSC1 := hid (coefP_sz (szP_take HSZ.out (k + 1)) x xe)
        have HMC := hid (coefP_can (canP_sub HC.out (List.take_sublist k p)) x xe).may
        clear x0
        go_wp2
        go_region_held3 (fun W => W.cell? ⟨b, off + k * 3, none⟩ = some (.bool bt) ∧ W.cell? ⟨b, off + k * 3 + 1, none⟩ = some (.slice ad nt cd) ∧ W.cell? ⟨b, off + k * 3 + 2, none⟩ = some (.slice ao nm co)) (first | exact S0 | exact S1 | exact ⟨cell_old _ S1.1, cell_old _ S1.2.1, cell_old _ S1.2.2⟩ | exact S3)
          (first
            | (go_at_call 59; (with_reducible refine HC3.out.mono ?_); rintro e w2 ⟨v2, rfl, hp2, hx2⟩; obtain ⟨a2, c2, rfl⟩ := hp2.form; have HX2 := hid (HX0.out.trans hx2); have S1 : _ ∧ _ ∧ _ := And.intro (hx2.cell S0.1) (And.intro (hx2.cell S0.2.1) (hx2.cell S0.2.2)); obtain ⟨n2, hn2⟩ : ∃ n, n = (withoutM t.2 x).length := ⟨_, rfl⟩; rw [← hn2] at hp2 ⊢
               have HP2 : Hid (Pows (Plus S w w2) w2 (.slice a2 n2 c2) (withoutM t.2 x)) := hid (hp2.to (Kept.refl _ _) (new_plus HX0.out.size))
               have hone := rts_one (S := Plus S w w2) (T := 89) (c := t.1) (plus_lt hS HX2.out) ((H4.out.ext HX2.out hS).to (Kept.refl _ _) (fun _ h => .inl h)) HP2.out
               rw [← HBT.out] at hone
               have x3 : Ext w2 (w2.alloc (.cells #[.bool bt, .slice ad nt cd, .slice a2 n2 c2] 89)) := Ext.alloc (Ext.refl w2) _
               have HX3 := hid (HX2.out.trans x3)
               have HC4 := hid (rpoly_add (S := Plus S w (w2.alloc (.cells #[.bool bt, .slice ad nt cd, .slice a2 n2 c2] 89))) _ _ (coefP (p.take k) x xe) [(t.1, withoutM t.2 x)] (w2.alloc (.cells #[.bool bt, .slice ad nt cd, .slice a2 n2 c2] 89)) (plus_lt hS HX3.out) (RTs.later hS HO2.out HX0.out (hx2.trans x3)) (hone.to (Kept.refl _ _) (fun q hq => by
                  rcases hq with hq | rfl
                  · exact plus_grow x3.size q hq
                  · exact .inr ⟨HX2.out.size, by rw [size_alloc]; exact Nat.lt_succ_self _⟩)) HMC.out (fun u hu => by
                  obtain rfl := List.mem_singleton.1 hu
                  exact mayM_without HTM.out x) ⟨by simp, fun u hu => by
                  obtain rfl := List.mem_singleton.1 hu
                  exact HSZT.out⟩ (fun j hj => by
                  rcases Nat.lt_or_ge j 1 with h | h
                  · obtain rfl : j = 0 := by omega
                    exact HSC.out
                  · have e : [(t.1, withoutM t.2 x)].take j = [(t.1, withoutM t.2 x)] := List.take_of_length_le (by simpa using h)
                    rw [e, HE.out]
                    exact HSC1.out))
               clear hx2 hp2 hone x3 hn2)
            | (go_at_call 45; (with_reducible refine HC4.out.mono ?_); rintro e w3 ⟨v3, rfl, hp3, hx3⟩; have HX4 := hid (HX3.out.trans hx3); have S3 : _ ∧ _ ∧ _ := And.intro (HX4.out.cell HC0.out.1) (And.intro (HX4.out.cell HC0.out.2.1) (HX4.out.cell HC0.out.2.2)); have HP3 := hid (hp3.to (Kept.refl _ _) (plus_plus HX3.out hx3)); clear hx3 hp3))
        all_goals
          go_wp2
          go_roundw
          case rel => exact ⟨k + 1, by omega, by go_num, HX4.out, hid (by rw [← HE.out]; exact HP3.out)⟩
          case measure => simp only [intOf]; omega
      · have HE := hid (coef_no HT.out (x := x) (d := d) (by rw [← HXE.out]; exact he))
        go_wp2
        go_roundw
        case rel => exact ⟨k + 1, by omega, by go_num, HX1.out, hid (by rw [HE.out]; exact HO1.out)⟩
        case measure => simp only [intOf]; omega
    · obtain rfl : k = p.length := by omega
      have HE : Hid (p.take p.length = p) := hid List.take_length
      clear hx0
      go_wp2
      all_goals
        go_ret
        refine ⟨_, rfl, ?_, HX.out⟩
        have := HO.out
        rw [HE.out] at this
        exact this

set_option maxRecDepth 100000 in
set_option maxHeartbeats 4000000 in
theorem rview_initial {S : Nat → Prop} (v : Value) (p : PZ) (w : World) (h : RTs S w v p) (hS : ∀ k, S k → k < w.heap.size) (hc : canP p) (hsz : szP p) :
    Calls Tryz.prog 28 #[v] w fun e w' => ∃ v', e = .returned v' ∧ RTs (Plus S w w') w' v' (initP p) ∧ Ext w w' := by
  have H := hid h
  have hlr := leadP_range hc
  have hdr := degP_range hc.may (leadP p)
  have C1 := rview_class v p w (h.old hS) hc.may
  rw [clsP_lead hc] at C1
  have C2 := fun (W : World) (hW : Ext w W) => rview_degree v p (leadP p) W ((h.ext hW hS).old (lt_ext hS hW)) hc.may ⟨by omega, by omega⟩
  have C3 := fun (W : World) (hW : Ext w W) (hl : 1 ≤ leadP p) => rview_coefficient (S := S) v p (leadP p) (degP p (leadP p)) W (h.ext hW hS) (lt_ext hS hW) hc hsz ⟨hl, hlr.2⟩ ⟨by omega, by omega⟩
  have HI0 : Hid (leadP p = 0 → initP p = p) := hid (fun h0 => by unfold initP; rw [if_pos h0])
  have HI : Hid (leadP p ≠ 0 → initP p = coefP p (leadP p) (degP p (leadP p))) := hid (fun h0 => by unfold initP; rw [if_neg h0])
  obtain ⟨l, hl⟩ : ∃ l, l = leadP p := ⟨_, rfl⟩
  rw [← hl] at C1 C2 C3 HI HI0 hlr hdr
  obtain ⟨d, hd⟩ : ∃ d, d = degP p l := ⟨_, rfl⟩
  rw [← hd] at C2 C3 HI hdr
  have HC1 := hid C1
  have HC2 := hid C2
  have HC3 := hid C3
  clear C1 C2 C3 hl hd h hc hsz
  go_enter Tryz.func28, Tryz.ntmps28
  go_wp2_with fail
  refine HC1.out.mono ?_
  rintro e w1 ⟨rfl, hx1⟩
  have HX1 := hid hx1
  clear hx1
  by_cases h0 : l = 0
  · have HE := hid (HI0.out h0)
    subst h0
    go_wp2
    all_goals
      go_ret
      exact ⟨_, rfl, by rw [HE.out]; exact (H.out.ext HX1.out hS).to (Kept.refl _ _) (fun _ h => .inl h), HX1.out⟩
  · have hl1 : 1 ≤ l := by omega
    have hb : (l == 0) = false := by rw [beq_eq_false_iff_ne]; exact h0
    go_wp2_with fail
    refine (HC2.out w1 HX1.out).mono ?_
    rintro e w2 ⟨rfl, hx2⟩
    have HX2 := hid (HX1.out.trans hx2)
    clear hx2
    go_wp2_with fail
    refine (HC3.out w2 HX2.out hl1).mono ?_
    rintro e w3 ⟨v3, rfl, hp3, hx3⟩
    have HX3 := hid (HX2.out.trans hx3)
    have HP3 : Hid (RTs (Plus S w w3) w3 v3 (coefP p l d)) := hid (hp3.to (Kept.refl _ _) (fun q hq => by
      rcases hq with hq | hq
      · exact .inl hq
      · exact .inr ⟨Nat.le_trans HX2.out.size hq.1, hq.2⟩))
    clear hx3 hp3
    go_wp2
    all_goals
      go_ret
      exact ⟨_, rfl, by rw [HI.out h0]; exact HP3.out, HX3.out⟩
end Go.Proofs.YthplgldclilccaaGreat

namespace Go.Proofs.YthplgldclilccaaGreat
open Go.RowKit

/-- sizes that the document's view takes -/
def Sz9 (p : PZ) : Prop := ∃ L N n, bndP p L N ∧ L ≤ 1000000 ∧ (1 + L) * (10000 * N) < 10 ^ n ∧ n ≤ 2000000
theorem nine_le (L N : Nat) : N + L * N ≤ (1 + L) * (10000 * N) := by
  have e : (1 + L) * (10000 * N) = 10000 * (N + L * N) := by rw [Nat.add_mul, Nat.one_mul, Nat.mul_left_comm L, Nat.mul_add]
  rw [e]
  omega
theorem nine_le' (L N : Nat) : 10000 * N ≤ (1 + L) * (10000 * N) := by
  rw [Nat.add_mul, Nat.one_mul]
  exact Nat.le_add_right _ _
theorem bnd9_sub {p q : PZ} {L N : Nat} (h : bndP p L N) (hs : q.Sublist p) : bndP q L N := ⟨Nat.le_trans hs.length_le h.1, fun t ht => h.2 t (hs.mem ht)⟩
theorem bnd9_neg {p : PZ} {L N : Nat} (h : bndP p L N) : bndP (negP p) L N := ⟨by rw [negP_length]; exact h.1, fun t ht => by
  obtain ⟨u, hu, rfl⟩ := List.mem_map.1 ht
  rw [Int.natAbs_neg]
  exact h.2 u hu⟩
theorem bnd9_coef {p : PZ} {L N : Nat} (h : bndP p L N) (x d : Int) : bndP (coefP p x d) L N := ⟨Nat.le_trans (List.length_filterMap_le _ _) h.1, fun u hu => by
  obtain ⟨t, ht, _, rfl⟩ := coefP_mem hu
  exact h.2 t ht⟩
theorem Sz9.sz {p : PZ} (h : Sz9 p) : szP p := by
  obtain ⟨L, N, n, h1, h2, h3, h4⟩ := h
  exact sz_of_bnd h1 (by omega) (Nat.lt_of_le_of_lt (Nat.le_trans (Nat.le_add_right _ _) (nine_le L N)) h3) h4
theorem Sz9.sub {p q : PZ} (h : Sz9 p) (hs : q.Sublist p) : Sz9 q := by
  obtain ⟨L, N, n, h1, h2⟩ := h
  exact ⟨L, N, n, bnd9_sub h1 hs, h2⟩
theorem Sz9.diff {p y : PZ} (h : Sz9 p) (hs : y.Sublist p) (k : Nat) : szP (addP p ((negP y).take k)) := by
  obtain ⟨L, N, n, h1, h2, h3, h4⟩ := h
  have h5 := bnd9_neg (bnd9_sub h1 hs)
  have h6 : ∀ t ∈ (negP y).take k, t.1.natAbs ≤ N := fun t ht => h5.2 t (List.mem_of_mem_take ht)
  have h7 : ((negP y).take k).length ≤ L := Nat.le_trans (by rw [List.length_take]; exact Nat.min_le_right _ _) h5.1
  have hb := addP_bnd h1 h6
  exact sz_of_bnd hb (by omega) (Nat.lt_of_le_of_lt (Nat.add_le_add_left (Nat.mul_le_mul_right N h7) N) (Nat.lt_of_le_of_lt (nine_le L N) h3)) h4
theorem pow9_one {v : Int} {i : Nat} {u : Int × Mono} (h : u ∈ powP v i) : u.1 = 1 := by
  unfold powP at h
  split at h
  all_goals
    obtain rfl := List.mem_singleton.1 h
    rfl
theorem pow_len (v : Int) (i : Nat) : (powP v i).length = 1 := by unfold powP; split <;> rfl
theorem pow_sz (v : Int) (i : Nat) : szP (powP v i) := ⟨by rw [pow_len]; omega, fun t ht => by rw [pow9_one ht]; exact szZ_i64 (n := 1) (by omega)⟩
theorem Sz9.mul {p q : PZ} (h : Sz9 p) (x d : Int) (v : Int) (i : Nat) (hq : q = coefP p x d) : szM q (powP v i) := by
  obtain ⟨L, N, n, h1, h2, h3, h4⟩ := h
  subst hq
  have hb := bnd9_coef h1 x d
  refine ⟨N, n, fun t ht u hu => by rw [pow9_one hu, Int.mul_one]; exact hb.2 t ht, by rw [pow_len, Nat.mul_one]; have := hb.1; omega, ?_, h4⟩
  rw [pow_len, Nat.mul_one]
  exact Nat.lt_of_le_of_lt (Nat.mul_le_mul_right N hb.1) (Nat.lt_of_le_of_lt (Nat.le_trans (Nat.le_add_left _ _) (nine_le L N)) h3)
theorem tail_sub {p : PZ} (h : canP p) : addP p (negP (partP p (leadP p) (degP p (leadP p)))) = tailP p := by
  have hp := part_can h (leadP p) (degP p (leadP p))
  have ht := tailP_can h
  rw [addP_eq h (negP_may hp.may)]
  refine norm_eq (mayAll_append h.may (negP_may hp.may)) ht (fun f => ?_)
  have h1 := low_next h (leadP p) (degP p (leadP p))
  rw [low_all (leadP p) (Int.lt_succ _), ← tail_low] at h1
  have h2 := norm_eqv (mayAll_append ht.may hp.may) f
  rw [h1, ev_append] at h2
  rw [ev_append, h2]
  unfold negP
  rw [ev_neg]
  omega

set_option maxRecDepth 100000 in
set_option maxHeartbeats 4000000 in
theorem rview_tail {S : Nat → Prop} (v : Value) (p : PZ) (w : World) (h : RTs S w v p) (hS : ∀ k, S k → k < w.heap.size) (hc : canP p) (hsz : Sz9 p) :
    Calls Tryz.prog 30 #[v] w fun e w' => ∃ v', e = .returned v' ∧ RTs (Plus S w w') w' v' (tailP p) ∧ Ext w w' := by
  have H := hid h
  have hlr := leadP_range hc
  have hdr := degP_range hc.may (leadP p)
  have C1 := rview_class v p w (h.old hS) hc.may
  rw [clsP_lead hc] at C1
  have C2 := fun (W : World) (hW : Ext w W) => rview_initial (S := S) v p W (h.ext hW hS) (lt_ext hS hW) hc hsz.sz
  have C3 := fun (W : World) (hW : Ext w W) => rview_degree v p (leadP p) W ((h.ext hW hS).old (lt_ext hS hW)) hc.may ⟨by omega, by omega⟩
  obtain ⟨i, hi⟩ : ∃ i : Nat, (i : Int) = degP p (leadP p) := ⟨(degP p (leadP p)).toNat, by omega⟩
  have hi2 : i ≤ 10000 := by omega
  have C4 := fun (W : World) => rview_power (leadP p) i W (by unfold inI64; omega) hi2
  have C5 := fun (W : World) (va vb : Value) (hW : Ext w W) (ha : RTs (Plus S w W) W va (initP p)) (hb : RTs (Plus S w W) W vb (powP (leadP p) i)) (h1 : 1 ≤ leadP p) => rpoly_mul (S := Plus S w W) va vb (initP p) (powP (leadP p) i) W (plus_lt hS hW) ha hb (initP_can hc).may (pow_may ⟨h1, hlr.2⟩ hi2) (by rw [init_part (by omega)]; exact coefP_sz hsz.sz _ _) (pow_sz _ _) (hsz.mul _ _ _ _ (init_part (by omega)))
  have HTP : Hid (1 ≤ leadP p → timesV (timesP (initP p) (powP (leadP p) i)) = partP p (leadP p) (degP p (leadP p))) := hid (fun h1 => by rw [init_part (by omega), ← hi, part_times hc ⟨h1, hlr.2⟩ hi2]; rfl)
  have C6 := fun (W : World) (vb : Value) (hW : Ext w W) (hb : RTs (Plus S w W) W vb (partP p (leadP p) (degP p (leadP p)))) => rpoly_sub (S := Plus S w W) v vb p (partP p (leadP p) (degP p (leadP p))) W (plus_lt hS hW) ((h.ext hW hS).to (Kept.refl _ _) (fun _ h => .inl h)) hb hc.may (part_can hc _ _).may (hsz.sub List.filter_sublist).sz (fun k _ => hsz.diff List.filter_sublist k)
  rw [tail_sub hc] at C6
  have HT0 : Hid (leadP p = 0 → tailP p = []) := hid (tail_none hc)
  obtain ⟨l, hl⟩ : ∃ l, l = leadP p := ⟨_, rfl⟩
  rw [← hi] at C3 C6 HTP
  rw [← hl] at C1 C3 C4 C5 C6 HTP HT0 hlr
  have HC1 := hid C1
  have HC2 := hid C2
  have HC3 := hid C3
  have HC4 := hid C4
  have HC5 := hid C5
  have HC6 := hid C6
  clear C1 C2 C3 C4 C5 C6 hl hi h hc hsz hdr
  go_enter Tryz.func30, Tryz.ntmps30
  go_wp2_with fail
  refine HC1.out.mono ?_
  rintro e w1 ⟨rfl, hx1⟩
  have HX1 := hid hx1
  clear hx1
  by_cases h0 : l = 0
  · have HE := hid (HT0.out h0)
    subst h0
    go_wp2
    all_goals
      go_ret
      exact ⟨_, rfl, by rw [HE.out]; exact RTs.nilv _ _ _ _ (by omega), HX1.out⟩
  · have hl1 : 1 ≤ l := by omega
    have hb : (l == 0) = false := by rw [beq_eq_false_iff_ne]; exact h0
    go_wp2_with fail
    refine (HC2.out w1 HX1.out).mono ?_
    rintro e w2 ⟨v2, rfl, hp2, hx2⟩
    have HX2 := hid (HX1.out.trans hx2)
    have HP2 : Hid (RTs (Plus S w w2) w2 v2 (initP p)) := hid (hp2.to (Kept.refl _ _) (fun q hq => by
      rcases hq with hq | hq
      · exact .inl hq
      · exact .inr ⟨Nat.le_trans HX1.out.size hq.1, hq.2⟩))
    clear hx2 hp2
    go_wp2_with fail
    refine (HC3.out w2 HX2.out).mono ?_
    rintro e w3 ⟨rfl, hx3⟩
    have HX3 := hid (HX2.out.trans hx3)
    have HP3 := hid (RTs.later hS HP2.out HX2.out hx3)
    clear hx3
    go_wp2_with fail
    refine (HC4.out w3).mono ?_
    rintro e w4 ⟨v4, rfl, hp4, hx4⟩
    have HX4 := hid (HX3.out.trans hx4)
    have HP4 := hid (RTs.later hS HP3.out HX3.out hx4)
    have HQ4 : Hid (RTs (Plus S w w4) w4 v4 (powP l i)) := hid (hp4.to (Kept.refl _ _) (new_plus HX3.out.size))
    have HC5' := hid (HC5.out w4 _ _ HX4.out HP4.out HQ4.out hl1)
    clear hx4 hp4
    go_wp2_with fail
    refine HC5'.out.mono ?_
    rintro e w5 ⟨v5, rfl, hp5, hx5⟩
    rw [HTP.out hl1] at hp5
    have HX5 := hid (HX4.out.trans hx5)
    have HP5 := hid (hp5.to (Kept.refl _ _) (plus_plus HX4.out hx5))
    have HC6' := hid (HC6.out w5 _ HX5.out HP5.out)
    clear hx5 hp5
    go_wp2_with fail
    refine HC6'.out.mono ?_
    rintro e w6 ⟨v6, rfl, hp6, hx6⟩
    have HX6 := hid (HX5.out.trans hx6)
    have HP6 := hid (hp6.to (Kept.refl _ _) (plus_plus HX5.out hx6))
    clear hx6 hp6
    go_wp2
    all_goals
      go_ret
      exact ⟨_, rfl, HP6.out, HX6.out⟩
end Go.Proofs.YthplgldclilccaaGreat

namespace Go.Proofs.YthplgldclilccaaGreat
open Go.RowKit

theorem Sz9.bnd {p : PZ} (h : Sz9 p) {t : Int × Mono} (ht : t ∈ p) {e : Nat} (he : e ≤ 10000) : ∃ N n, (t.1 * (e : Int)).natAbs ≤ N ∧ N < 10 ^ n ∧ n ≤ 2000000 := by
  obtain ⟨L, N, n, h1, h2, h3, h4⟩ := h
  refine ⟨10000 * N, n, ?_, Nat.lt_of_le_of_lt (nine_le' L N) h3, h4⟩
  rw [Int.natAbs_mul, Int.natAbs_natCast, Nat.mul_comm]
  exact Nat.mul_le_mul he (h1.2 t ht)
theorem Sz9.der {p : PZ} (h : Sz9 p) (hm : mayAll p) (x : Int) (k : Nat) : szP (derP (p.take k) x) := by
  obtain ⟨L, N, n, h1, h2, h3, h4⟩ := h
  refine ⟨Nat.le_trans (List.length_filterMap_le _ _) (Nat.le_trans (by rw [List.length_take]; exact Nat.min_le_right _ _) (Nat.le_trans h1.1 (by omega))), fun u hu => ?_⟩
  obtain ⟨t, ht, _, rfl⟩ := derP_mem hu
  have ht := List.mem_of_mem_take ht
  have hr := ex_range (hm t ht) x
  refine szZ_le (n := n) (Nat.lt_of_le_of_lt ?_ (Nat.lt_of_le_of_lt (nine_le' L N) h3)) h4
  show (t.1 * ex t.2 x).natAbs ≤ _
  rw [Int.natAbs_mul, Nat.mul_comm]
  exact Nat.mul_le_mul (by omega) (h1.2 t ht)
theorem der_times {t : Int × Mono} (h : mayM t.2 = true) {x : Int} {e : Nat} (he : (e : Int) = ex t.2 x) (h0 : 0 < e) (hx : 1 ≤ x ∧ x ≤ 200) (hne : t.1 ≠ 0) : timesP [(t.1 * (e : Int), withoutM t.2 x)] (powP x (e - 1)) = some [(t.1 * (e : Int), decM t.2 x)] := by
  have hr := ex_range h x
  have hw := mayM_without h x
  have hdm := dec_may h (v := x)
  have hm : mulL [(t.1 * (e : Int), withoutM t.2 x)] (powP x (e - 1)) = [(t.1 * (e : Int), decM t.2 x)] := by
    unfold powP decM
    by_cases h1 : e = 1
    · subst h1
      rw [if_pos rfl, if_neg (by omega), mulL_one]
      simp [times_one_right (may_ok hw)]
    · rw [if_neg (by omega), if_pos (by omega), mulL_one]
      have e1 : ((e - 1 : Nat) : Int) = ex t.2 x - 1 := by omega
      simp [e1]
  have hc : canP [(t.1 * (e : Int), decM t.2 x)] := ⟨fun u hu => by
    obtain rfl := List.mem_singleton.1 hu
    exact ⟨Int.mul_ne_zero hne (by omega), hdm⟩, List.pairwise_singleton _ _⟩
  rw [times_norm (fun u hu => by
    obtain rfl := List.mem_singleton.1 hu
    exact hw) (pow_may hx (by omega)) (by rw [hm]; exact hc.may), hm, normP_of_can hc]
theorem der_yes {p : PZ} (h : canP p) {k : Nat} {t : Int × Mono} {x : Int} {e : Nat} (ht : p[k]? = some t) (he : (e : Int) = ex t.2 x) (h0 : 0 < e) : addP (derP (p.take k) x) [(t.1 * (e : Int), decM t.2 x)] = derP (p.take (k + 1)) x := by
  have hc := derP_can (canP_sub h (List.take_sublist k p)) x
  have hc' := derP_can (canP_sub h (List.take_sublist (k + 1) p)) x
  have e1 : derP (p.take (k + 1)) x = derP (p.take k) x ++ [(t.1 * (e : Int), decM t.2 x)] := by
    unfold derP
    rw [List.take_add_one, ht, List.filterMap_append]
    have : ex t.2 x ≠ 0 := by omega
    simp [derF, this, he]
  have hm : mayAll [(t.1 * (e : Int), decM t.2 x)] := fun u hu => by
    obtain rfl := List.mem_singleton.1 hu
    exact dec_may (h.may t (List.mem_of_getElem? ht))
  rw [addP_eq hc hm, ← e1, normP_of_can hc']
theorem der_no {p : PZ} {k : Nat} {t : Int × Mono} {x : Int} (ht : p[k]? = some t) (hd : ex t.2 x = 0) : derP (p.take (k + 1)) x = derP (p.take k) x := by
  unfold derP
  rw [List.take_add_one, ht, List.filterMap_append]
  simp [derF, hd]
section
variable {S : Nat → Prop} {w w1 w2 : World} {v : Value}
theorem Digs.later {ds : List Nat} (hS : ∀ k, S k → k < w.heap.size) (h : Digs (Plus S w w1) w1 v ds) (h1 : Ext w w1) (h2 : Ext w1 w2) : Digs (Plus S w w2) w2 v ds := h.to (Kept.ext h2 (plus_lt hS h1)) (plus_grow h2.size)
theorem Pows.later {m : Mono} (hS : ∀ k, S k → k < w.heap.size) (h : Pows (Plus S w w1) w1 v m) (h1 : Ext w w1) (h2 : Ext w1 w2) : Pows (Plus S w w2) w2 v m := h.to (Kept.ext h2 (plus_lt hS h1)) (plus_grow h2.size)
theorem ZV.later {z : Int} (hS : ∀ k, S k → k < w.heap.size) (h : ZV (Plus S w w1) w1 v z) (h1 : Ext w w1) (h2 : Ext w1 w2) : ZV (Plus S w w2) w2 v z := h.to (Kept.ext h2 (plus_lt hS h1)) (plus_grow h2.size)
end
/-- one term, just laid -/
theorem one_done {S : Nat → Prop} {w W : World} {T : TypeId} {vd vo : Value} {c : Int} {m : Mono} {b : Bool} (hS : ∀ k, S k → k < w.heap.size) (hx : Ext w W) (hd : Digs (Plus S w W) W vd (rep 10 c.natAbs)) (hm : Pows (Plus S w W) W vo m) (hb : b = decide (c < 0)) :
    RTs (Plus S w (W.alloc (.cells #[.bool b, vd, vo] T))) (W.alloc (.cells #[.bool b, vd, vo] T)) (.slice (some ⟨W.heap.size, 0, none⟩) 1 1) [(c, m)] := by
  subst hb
  have x3 : Ext W (W.alloc (.cells #[.bool (decide (c < 0)), vd, vo] T)) := Ext.alloc (Ext.refl W) _
  exact (rts_one (S := Plus S w W) (plus_lt hS hx) hd hm).to (Kept.refl _ _) (fun q hq => by
    rcases hq with hq | rfl
    · exact plus_grow x3.size q hq
    · exact .inr ⟨hx.size, by rw [size_alloc]; exact Nat.lt_succ_self _⟩)

set_option maxRecDepth 100000 in
set_option maxHeartbeats 8000000 in
theorem rview_derive {S : Nat → Prop} (v : Value) (p : PZ) (x : Int) (w : World) (h : RTs S w v p) (hS : ∀ k, S k → k < w.heap.size) (hc : canP p) (hsz : Sz9 p) (hx : 1 ≤ x ∧ x ≤ 200) :
    Calls Tryz.prog 22 #[v, .int .i64 x] w fun e w' => ∃ v', e = .returned v' ∧ RTs (Plus S w w') w' v' (derP p x) ∧ Ext w w' := by
  have hl := h.len_le
  have H := hid h
  have HSZ := hid hsz
  have HC := hid hc
  have HX200 := hid hx
  obtain ⟨hx1, hx2⟩ := hx
  obtain ⟨a, cap, rfl⟩ := h.form
  clear h hsz hc
  go_enter Tryz.func22, Tryz.ntmps22
  go_wp2
  go_loopw [5, 6] (fun o i wr => ∃ k : Nat, k ≤ p.length ∧ i = .int .i64 k ∧ Ext w wr ∧ Hid (RTs (Plus S w wr) wr o (derP (p.take k) x))) (fun _ i _ => p.length - (intOf i).toNat)
  case atStart => exact ⟨0, Nat.zero_le _, rfl, Ext.refl _, hid (RTs.nilv _ _ _ _ (by omega))⟩
  case round =>
    obtain ⟨k, hk, rfl, hx0, HO⟩ := hrel
    have HX := hid hx0
    by_cases hlt : k < p.length
    · obtain ⟨t, ht⟩ := some_of_lt hlt
      obtain ⟨b, off, vd, vo, rfl, -, hn1, hm1, hSb, h1, h2, h3, h4, h5⟩ := H.out.cellAt ht
      have HT := hid ht
      have HMT := hid (List.mem_of_getElem? ht)
      have H4 := hid h4
      have H5 := hid h5
      have HTM := hid (HC.out.may t HMT.out)
      have HTN := hid (HC.out.1 t HMT.out).1
      have hr := ex_range HTM.out x
      obtain ⟨ad, cd, rfl⟩ := h4.form
      obtain ⟨ao, co, rfl⟩ := h5.form
      have g3 := hx0.cell h3
      obtain ⟨xe, hxe⟩ : ∃ n : Nat, (n : Int) = ex t.2 x := ⟨(ex t.2 x).toNat, by omega⟩
      have C1 := fun (W : World) (hW : Ext w W) => rmono_degree (S := S) _ t.2 x W (H5.out.ext hW hS) (lt_ext hS hW) ⟨by omega, by omega⟩
      rw [plainM_yes HTM.out] at C1
      have CW := fun (W : World) (hW : Ext w W) => rmono_without (S := S) _ t.2 x W (H5.out.ext hW hS) (lt_ext hS hW) HTM.out ⟨hx1, hx2⟩
      have hsz1 := HSZ.out.sz.2 t HMT.out
      have CM := fun (W : World) (vs : Value) (hW : Ext w W) (hs : ZV (Plus S w W) W vs (xe : Int)) (hsn : szZ (xe : Int)) => zed_mul (S := Plus S w W) (.agg #[.bool (decide (t.1 < 0)), .slice ad (rep 10 t.1.natAbs).length cd]) vs t.1 (xe : Int) W ⟨_, rfl, (H4.out.ext hW hS).to (Kept.refl _ _) (fun _ h => .inl h)⟩ hs (plus_lt hS hW) hsz1 hsn
      have h0 : _ ∧ _ ∧ _ := And.intro h1 (And.intro h2 h3)
      obtain ⟨bt, hbt⟩ : ∃ b, b = decide (t.1 < 0) := ⟨_, rfl⟩
      obtain ⟨nt, hnt⟩ : ∃ n, n = (rep 10 t.1.natAbs).length := ⟨_, rfl⟩
      obtain ⟨nm, hnm⟩ : ∃ n, n = t.2.length := ⟨_, rfl⟩
      have HXE := hid hxe
      rw [← hbt, ← hnt, ← hnm] at h0
      rw [← hnm] at g3 C1 CW
      rw [← hxe] at C1 hr
      rw [← hbt, ← hnt] at CM
      have HC0 := hid h0
      have HC1 := hid C1
      have HCW := hid CW
      have HCM := hid CM
      clear ht h0 h1 h2 h3 h4 h5 hx0 C1 CW CM hbt hnt hnm hxe hsz1
      go_wp2_with fail
      refine (HC1.out wr HX.out).mono ?_
      rintro e w1 ⟨rfl, hx1'⟩
      have HX1 := hid (HX.out.trans hx1')
      have HO1 := hid (RTs.later hS HO.out HX.out hx1')
      clear hx1' g3
      by_cases he : 0 < xe
      · have hen : xe < 9223372036854775808 := by omega
        have he1 : xe ≤ 10000 := by omega
        have HE := hid (der_yes HC.out HT.out (x := x) HXE.out he)
        have HTI := hid (der_times HTM.out HXE.out he ⟨hx1, hx2⟩ HTN.out)
        have hsn : Hid (szZ (xe : Int)) := hid (szZ_i64 hen)
        have x0 : Ext w w1.drew := HX1.out.drew
        have HX0 := hid x0
        have S0 : _ ∧ _ ∧ _ := And.intro (x0.cell HC0.out.1) (And.intro (x0.cell HC0.out.2.1) (x0.cell HC0.out.2.2))
        have HCS := hid (fun W => zed_small xe W hen)
        clear x0
        go_upto_region 7 with fail
        go_cut [8] (fun s8 wx => ∃ g : Nat, s8 = .slice (some ⟨g, 0, none⟩) 1 1 ∧ Hid (RTs (Plus S w wx) wx (.slice (some ⟨g, 0, none⟩) 1 1) [(t.1 * (xe : Int), withoutM t.2 x)]) ∧ Ext w1 wx)
        case first =>
          go_region_held3 (fun W => W.cell? ⟨b, off + k * 3, none⟩ = some (.bool bt) ∧ W.cell? ⟨b, off + k * 3 + 1, none⟩ = some (.slice ad nt cd) ∧ W.cell? ⟨b, off + k * 3 + 2, none⟩ = some (.slice ao nm co)) (first | (with_reducible exact S0) | (with_reducible exact S1) | (with_reducible exact S2) | (with_reducible exact S3) | (with_reducible exact ⟨cell_old _ S2.1, cell_old _ S2.2.1, cell_old _ S2.2.2⟩) | (with_reducible exact ⟨cell_old _ S3.1, cell_old _ S3.2.1, cell_old _ S3.2.2⟩))
            (first
              | (go_at_call 61; (with_reducible refine (HCS.out _).mono ?_); rintro e ws ⟨vs, rfl, hzs, hxs⟩
                 have HXS : Hid (Ext w ws) := hid (by first | exact HX0.out.trans hxs | exact HXW.out.trans hxs)
                 have HYS : Hid (Ext w1 ws) := hid (by first | exact (Ext.refl w1).drew.trans hxs | exact HYW.out.trans hxs)
                 have S1 : _ ∧ _ ∧ _ := And.intro (HXS.out.cell HC0.out.1) (And.intro (HXS.out.cell HC0.out.2.1) (HXS.out.cell HC0.out.2.2))
                 have HZS : Hid (ZV (Plus S w ws) ws vs (xe : Int)) := hid (hzs.to (Kept.refl _ _) (fun q hq => .inr ⟨Nat.le_trans (by first | exact HX0.out.size | exact HXW.out.size) hq.1, hq.2⟩))
                 have HRS := hid hxs
                 obtain ⟨asx, nsx, csx, rfl⟩ := hzs.form
                 obtain ⟨bs, hbs⟩ : ∃ b, b = decide ((xe : Int) < 0) := ⟨_, rfl⟩
                 rw [← hbs] at HZS ⊢
                 clear hzs hxs hbs)
              | (go_at_call 60
                 first
                   | (have HQ := hid (HCM.out ws _ HXS.out HZS.out hsn.out); (with_reducible refine HQ.out.mono ?_))
                   | (have HQ := hid (HCM.out w3 _ HXW.out (HZS.out.later hS HXS.out HRW.out) hsn.out); (with_reducible refine HQ.out.mono ?_))
                 rintro e w2 ⟨v2, rfl, hzm, hxm⟩
                 have HXM : Hid (Ext w w2) := hid (by first | exact HXS.out.trans hxm | exact HXW.out.trans hxm)
                 have HYM : Hid (Ext w1 w2) := hid (by first | exact HYS.out.trans hxm | exact HYW.out.trans hxm)
                 have S2 : _ ∧ _ ∧ _ := And.intro (HXM.out.cell HC0.out.1) (And.intro (HXM.out.cell HC0.out.2.1) (HXM.out.cell HC0.out.2.2))
                 have hzm2 : ZV (Plus S w w2) w2 v2 (t.1 * (xe : Int)) := hzm.to (Kept.refl _ _) (fun q hq => .inr ⟨Nat.le_trans (by first | exact HXS.out.size | exact HXW.out.size) hq.1, hq.2⟩)
                 have HRM := hid hxm
                 obtain ⟨vd2, rfl, hd2⟩ := hzm2
                 obtain ⟨a2, c2, rfl⟩ := hd2.form
                 obtain ⟨n2, hn2⟩ : ∃ n, n = (rep 10 (t.1 * (xe : Int)).natAbs).length := ⟨_, rfl⟩
                 obtain ⟨b2, hb2⟩ : ∃ b, b = decide (t.1 * (xe : Int) < 0) := ⟨_, rfl⟩
                 rw [← hn2] at hd2 ⊢
                 rw [← hb2]
                 have HB2 := hid hb2
                 have HD2 := hid hd2
                 clear hzm hxm hd2 hn2 hb2 HQ)
              | (go_at_call 59
                 first
                   | (have HQ := hid (HCW.out w1.drew HX0.out); (with_reducible refine HQ.out.mono ?_))
                   | (have HQ := hid (HCW.out ws HXS.out); (with_reducible refine HQ.out.mono ?_))
                   | (have HQ := hid (HCW.out w2 HXM.out); (with_reducible refine HQ.out.mono ?_))
                 rintro e w3 ⟨v3, rfl, hp3, hx3⟩
                 have HXW : Hid (Ext w w3) := hid (by first | exact HX0.out.trans hx3 | exact HXS.out.trans hx3 | exact HXM.out.trans hx3)
                 have HYW : Hid (Ext w1 w3) := hid (by first | exact (Ext.refl w1).drew.trans hx3 | exact HYS.out.trans hx3 | exact HYM.out.trans hx3)
                 have S3 : _ ∧ _ ∧ _ := And.intro (HXW.out.cell HC0.out.1) (And.intro (HXW.out.cell HC0.out.2.1) (HXW.out.cell HC0.out.2.2))
                 have hp3' : Pows (Plus S w w3) w3 v3 (withoutM t.2 x) := hp3.to (Kept.refl _ _) (fun q hq => .inr ⟨Nat.le_trans (by first | exact HX0.out.size | exact HXS.out.size | exact HXM.out.size) hq.1, hq.2⟩)
                 have HRW := hid hx3
                 obtain ⟨a3, c3, rfl⟩ := hp3'.form
                 obtain ⟨n3, hn3⟩ : ∃ n, n = (withoutM t.2 x).length := ⟨_, rfl⟩
                 rw [← hn3] at hp3' ⊢
                 have HP3 := hid hp3'
                 clear hp3 hx3 hp3' hn3 HQ))
          all_goals
            go_wp2_with fail
            go_meet
            refine ⟨_, rfl, hid ?_, ?_⟩
            · first
                | exact one_done hS HXW.out (HD2.out.later hS HXM.out HRW.out) HP3.out HB2.out
                | exact one_done hS HXM.out HD2.out (HP3.out.later hS HXW.out HRM.out) HB2.out
                | exact one_done hS HXM.out HD2.out (HP3.out.later hS HXW.out (HRS.out.trans HRM.out)) HB2.out
            · first
                | exact HYW.out.alloc _
                | exact HYM.out.alloc _
        case rest =>
          obtain ⟨g, rfl, HR, hxc⟩ := hcut
          have HXC : Hid (Ext w wc) := hid (HX1.out.trans hxc)
          have HOC := hid (RTs.later hS HO1.out HX1.out hxc)
          have c4 := rview_power x (xe - 1) wc (by unfold inI64; omega) (by omega)
          rw [show ((xe - 1 : Nat) : Int) = (xe : Int) - 1 by omega] at c4
          have HC4 := hid c4
          clear hxc c4
          go_wp2_with fail
          (with_reducible refine HC4.out.mono ?_)
          rintro e w4 ⟨v4, rfl, hp4, hx4⟩
          have HX4 := hid (HXC.out.trans hx4)
          have HO4 := hid (RTs.later hS HOC.out HXC.out hx4)
          have HR4 := hid (RTs.later hS HR.out HXC.out hx4)
          have HQ4 : Hid (RTs (Plus S w w4) w4 v4 (powP x (xe - 1))) := hid (hp4.to (Kept.refl _ _) (new_plus HXC.out.size))
          have HSN : Hid (szZ (t.1 * (xe : Int))) := hid (by
            obtain ⟨N, n, g1, g2, g3⟩ := HSZ.out.bnd HMT.out he1
            exact szZ_le (Nat.lt_of_le_of_lt g1 g2) g3)
          have HC5 := hid (rpoly_mul (S := Plus S w w4) _ _ [(t.1 * (xe : Int), withoutM t.2 x)] (powP x (xe - 1)) w4 (plus_lt hS HX4.out) HR4.out HQ4.out (fun u hu => by
            obtain rfl := List.mem_singleton.1 hu
            exact mayM_without HTM.out x) (pow_may ⟨hx1, hx2⟩ (by omega)) ⟨by simp, fun u hu => by
            obtain rfl := List.mem_singleton.1 hu
            exact HSN.out⟩ (pow_sz _ _) (by
            obtain ⟨N, n, g1, g2, g3⟩ := HSZ.out.bnd HMT.out he1
            refine ⟨N, n, fun u hu y hy => ?_, by rw [pow_len]; simp, by rw [pow_len]; simpa using g2, g3⟩
            obtain rfl := List.mem_singleton.1 hu
            rw [pow9_one hy, Int.mul_one]
            exact g1))
          clear hp4 hx4
          go_wp2_with fail
          (with_reducible refine HC5.out.mono ?_)
          rintro e w5 ⟨v5, rfl, hp5, hx5⟩
          rw [HTI.out] at hp5
          have HX5 := hid (HX4.out.trans hx5)
          have HO5 := hid (RTs.later hS HO4.out HX4.out hx5)
          have HR5 : Hid (RTs (Plus S w w5) w5 v5 [(t.1 * (xe : Int), decM t.2 x)]) := hid (hp5.to (Kept.refl _ _) (plus_plus HX4.out hx5))
          have HC6 := hid (rpoly_add (S := Plus S w w5) _ _ (derP (p.take k) x) [(t.1 * (xe : Int), decM t.2 x)] w5 (plus_lt hS HX5.out) HO5.out HR5.out (derP_can (canP_sub HC.out (List.take_sublist k p)) x).may (fun u hu => by
            obtain rfl := List.mem_singleton.1 hu
            exact dec_may HTM.out) ⟨by simp, fun u hu => by
            obtain rfl := List.mem_singleton.1 hu
            exact HSN.out⟩ (fun j hj => by
            rcases Nat.lt_or_ge j 1 with h | h
            · obtain rfl : j = 0 := by omega
              exact HSZ.out.der HC.out.may x k
            · have e : [(t.1 * (xe : Int), decM t.2 x)].take j = [(t.1 * (xe : Int), decM t.2 x)] := List.take_of_length_le (by simpa using h)
              rw [e, HE.out]
              exact HSZ.out.der HC.out.may x (k + 1)))
          clear hp5 hx5
          go_wp2_with fail
          (with_reducible refine HC6.out.mono ?_)
          rintro e w6 ⟨v6, rfl, hp6, hx6⟩
          have HX6 := hid (HX5.out.trans hx6)
          have HP6 := hid (hp6.to (Kept.refl _ _) (plus_plus HX5.out hx6))
          clear hx6 hp6
          go_wp2
          go_roundw
          case rel => exact ⟨k + 1, by omega, by go_num, HX6.out, hid (by rw [← HE.out]; exact HP6.out)⟩
          case measure => simp only [intOf]; omega
      · have hxe0 : xe = 0 := by omega
        have HE := hid (der_no HT.out (x := x) (by rw [← HXE.out]; omega))
        subst hxe0
        go_wp2
        go_roundw
        case rel => exact ⟨k + 1, by omega, by go_num, HX1.out, hid (by rw [HE.out]; exact HO1.out)⟩
        case measure => simp only [intOf]; omega
    · obtain rfl : k = p.length := by omega
      have HE : Hid (p.take p.length = p) := hid List.take_length
      clear hx0
      go_wp2
      all_goals
        go_ret
        refine ⟨_, rfl, ?_, HX.out⟩
        have := HO.out
        rw [HE.out] at this
        exact this
end Go.Proofs.YthplgldclilccaaGreat

namespace Go.Proofs.YthplgldclilccaaGreat
open Go.RowKit

theorem b32_ten (k : Nat) : B32 ^ k < 10 ^ (10 * k + 1) := by
  have h1 : B32 ^ k ≤ (10 ^ 10) ^ k := Nat.pow_le_pow_left (by unfold B32; decide) k
  rw [← Nat.pow_mul] at h1
  exact Nat.lt_of_le_of_lt h1 (Nat.pow_lt_pow_right (by decide) (Nat.lt_succ_self _))
theorem fit_sz {k n : Nat} {p : PZ} (h : Fit k n p) (hk : k ≤ 100000) (hn : n ≤ 1000000) : szP p :=
  ⟨Nat.le_trans h.2.2 (by omega), fun t ht => szZ_le (n := 10 * k + 1) (Nat.lt_trans (h.2.1 t ht) (b32_ten k)) (by omega)⟩
theorem fit_take {k n : Nat} {p : PZ} (h : Fit k n p) (j : Nat) : Fit k n (p.take j) := ⟨canP_sub h.1 (List.take_sublist _ _), fun t ht => h.2.1 t (List.mem_of_mem_take ht), Nat.le_trans (by rw [List.length_take]; exact Nat.min_le_right _ _) h.2.2⟩
theorem fit_szM {n : Nat} {p : PZ} (h : Fit 20 n p) (hn : n ≤ 1000) (v : Int) (i : Nat) : szM p (powP v i) := by
  refine ⟨B32 ^ 20, 250, fun t ht u hu => by rw [pow9_one hu, Int.mul_one]; exact Nat.le_of_lt (h.2.1 t ht), by rw [pow_len, Nat.mul_one]; exact Nat.le_trans h.2.2 (by omega), ?_, by omega⟩
  rw [pow_len, Nat.mul_one]
  have h1 : p.length * B32 ^ 20 ≤ 1000 * B32 ^ 20 := Nat.mul_le_mul_right _ (Nat.le_trans h.2.2 hn)
  exact Nat.lt_of_le_of_lt h1 (by unfold B32; decide)

set_option maxRecDepth 100000 in
set_option maxHeartbeats 8000000 in
theorem rview_build {S : Nat → Prop} (v : Value) (l : List PZ) (x : Int) (w : World) (h : RPs S w v l) (hS : ∀ k, S k → k < w.heap.size) (hf : ∀ q ∈ l, Fit 20 20 q) (hlen : l.length ≤ 100) (hx : 1 ≤ x ∧ x ≤ 200) :
    Calls Tryz.prog 38 #[v, .int .i64 x] w fun e w' => ∃ v', e = .returned (.tuple #[v', .bool (timesB (buildP l x))]) ∧ RTs (Plus S w w') w' v' (timesV (buildP l x)) ∧ Ext w w' := by
  have hl := h.len_le
  have H := hid h
  have HF := hid hf
  have HXV := hid hx
  have HXI : Hid (inI64 x) := hid (by unfold inI64; omega)
  obtain ⟨a, cap, rfl⟩ := h.form
  obtain ⟨R, hR⟩ : ∃ R, R = buildP l x := ⟨_, rfl⟩
  rw [← hR]
  have HR := hid hR
  clear h hf hR hx
  go_enter Tryz.func38, Tryz.ntmps38
  go_wp2
  go_loopw [6, 7] (fun o i wr => ∃ (k : Nat) (acc : PZ), k ≤ l.length ∧ i = .int .i64 (k : Nat) ∧ Ext w wr ∧ Hid (buildF x acc k (l.drop k) = R) ∧ Hid (Fit (23 + 2 * k) (20 * k) acc) ∧ Hid (RTs (Plus S w wr) wr o acc)) (fun _ i _ => l.length - (intOf i).toNat)
  case atStart => exact ⟨0, [], Nat.zero_le _, rfl, Ext.refl _, hid HR.out.symm, hid (fit_nil.mono (by omega) (by omega)), hid (RTs.nilv _ _ _ _ (by omega))⟩
  case round =>
    obtain ⟨k, acc, hk, rfl, hx0, HB, HFA, HO⟩ := hrel
    have HX := hid hx0
    by_cases hlt : k < l.length
    · obtain ⟨q, hq⟩ := some_of_lt hlt
      obtain ⟨b, off, vq, rfl, -, hn1, hm1, hSb, h1, h2⟩ := H.out.cellAt hq
      have HQ := hid h2
      have HFQ := hid (HF.out q (List.mem_of_getElem? hq))
      have HBA := hid (buildF_at (v := x) (acc := acc) hq)
      have hk1 : k ≤ 100 := by omega
      have HC0 := hid h1
      obtain ⟨aq, cq, rfl⟩ := h2.form
      obtain ⟨nq, hnq⟩ : ∃ n, n = q.length := ⟨_, rfl⟩
      rw [← hnq] at HQ HC0
      have x0 : Ext w wr.drew := hx0.drew
      have HX0 := hid x0
      have S0 : wr.drew.cell? ⟨b, off + k, none⟩ = some (.slice aq nq cq) := x0.cell HC0.out
      have HCP := hid (rview_power x k wr.drew HXI.out (by omega))
      have HCT := hid (fun (W : World) (vb : Value) (hW : Ext w W) (hb : RTs (Plus S w W) W vb (powP x k)) => rpoly_times (S := Plus S w W) _ vb q (powP x k) W (plus_lt hS hW) ((HQ.out.ext hW hS).to (Kept.refl _ _) (fun _ h => .inl h)) hb HFQ.out.can.may (pow_may HXV.out (by omega)) (fit_sz HFQ.out (by decide) (by decide)) (pow_sz _ _) (fit_szM HFQ.out (by decide) _ _))
      obtain ⟨o, ho⟩ : ∃ o, o = timesP q (powP x k) := ⟨_, rfl⟩
      rw [← ho] at HCT HBA
      have HOT := hid ho
      clear hq h1 h2 hx0 x0 hnq ho
      cases o with
      | none =>
        have HRN : Hid (R = none) := hid (HB.out.symm.trans HBA.out)
        simp only [timesB, timesV] at HCT
        go_wp2
        go_region_held3 (fun W => W.cell? ⟨b, off + k, none⟩ = some (.slice aq nq cq)) (first | (with_reducible exact S0) | (with_reducible exact S1) | (with_reducible exact S2))
          (first
            | (go_at_call 62; (with_reducible refine HCP.out.mono ?_); rintro e w1 ⟨v1, rfl, hp1, hx1⟩; have HX1 := hid (HX0.out.trans hx1); have S1 : w1.cell? ⟨b, off + k, none⟩ = some (.slice aq nq cq) := HX1.out.cell HC0.out
               have HP1 : Hid (RTs (Plus S w w1) w1 v1 (powP x k)) := hid (hp1.to (Kept.refl _ _) (new_plus HX0.out.size)); have HT1 := hid (HCT.out w1 v1 HX1.out HP1.out); obtain ⟨a1, c1, rfl⟩ := hp1.form; clear hp1 hx1)
            | (go_at_call 91; (with_reducible refine HT1.out.mono ?_); rintro e w2 ⟨v2, rfl, hp2, hx2⟩; have HX2 := hid (HX1.out.trans hx2); have S2 : w2.cell? ⟨b, off + k, none⟩ = some (.slice aq nq cq) := HX2.out.cell HC0.out; clear hp2 hx2))
        all_goals
          go_wp2
          all_goals
            go_ret2
            rw [HRN.out]
            exact ⟨_, rfl, RTs.nilv _ _ _ _ (by omega), HX2.out⟩
      | some y =>
        have hfy : Fit 23 20 y := (HFQ.out.times (fit_pow HXV.out (i := k) (by omega)) HOT.out.symm (by decide)).mono (by omega) (by omega)
        have HFY := hid hfy
        have HSZS := hid (fun j => fit_sz (HFA.out.add ((fit_take hfy j).mono (by omega) (Nat.le_refl _)) (by omega)) (by omega) (by omega))
        have HFN := hid ((HFA.out.add (hfy.mono (by omega) (Nat.le_refl _)) (by omega)).mono (l := 23 + 2 * (k + 1)) (m := 20 * (k + 1)) (by omega) (by omega))
        have HE := hid (addP_eq HFA.out.can hfy.can.may)
        simp only [timesB, timesV] at HCT
        clear hfy
        go_wp2
        go_region_held3 (fun W => W.cell? ⟨b, off + k, none⟩ = some (.slice aq nq cq)) (first | (with_reducible exact S0) | (with_reducible exact S1) | (with_reducible exact S2))
          (first
            | (go_at_call 62; (with_reducible refine HCP.out.mono ?_); rintro e w1 ⟨v1, rfl, hp1, hx1⟩; have HX1 := hid (HX0.out.trans hx1); have HY1 := hid ((Ext.refl wr).drew.trans hx1); have S1 : w1.cell? ⟨b, off + k, none⟩ = some (.slice aq nq cq) := HX1.out.cell HC0.out
               have HP1 : Hid (RTs (Plus S w w1) w1 v1 (powP x k)) := hid (hp1.to (Kept.refl _ _) (new_plus HX0.out.size)); have HT1 := hid (HCT.out w1 v1 HX1.out HP1.out); obtain ⟨a1, c1, rfl⟩ := hp1.form; clear hp1 hx1)
            | (go_at_call 91; (with_reducible refine HT1.out.mono ?_); rintro e w2 ⟨v2, rfl, hp2, hx2⟩; have HX2 := hid (HX1.out.trans hx2); have HO2 := hid (RTs.later hS HO.out HX.out (HY1.out.trans hx2)); have S2 : w2.cell? ⟨b, off + k, none⟩ = some (.slice aq nq cq) := HX2.out.cell HC0.out; have HP2 : Hid (RTs (Plus S w w2) w2 v2 y) := hid (hp2.to (Kept.refl _ _) (plus_plus HX1.out hx2))
               have HCA := hid (rpoly_add (S := Plus S w w2) _ _ acc y w2 (plus_lt hS HX2.out) HO2.out HP2.out HFA.out.can.may HFY.out.can.may (fit_sz HFY.out (by decide) (by decide)) (fun j _ => by rw [addP_eq HFA.out.can (fit_take HFY.out j).can.may]; exact HSZS.out j))
               obtain ⟨a2, c2, rfl⟩ := hp2.form; clear hp2 hx2))
        all_goals
          go_wp2_with fail
          (with_reducible refine HCA.out.mono ?_)
          rintro e w3 ⟨v3, rfl, hp3, hx3⟩
          have HX3 := hid (HX2.out.trans hx3)
          have HP3 := hid (hp3.to (Kept.refl _ _) (plus_plus HX2.out hx3))
          clear hp3 hx3
          go_wp2
          go_roundw
          case rel => exact ⟨k + 1, normP (acc ++ y), by omega, by go_num, HX3.out, hid (HBA.out.symm.trans HB.out), HFN, hid (by rw [← HE.out]; exact HP3.out)⟩
          case measure => simp only [intOf]; omega
    · obtain rfl : k = l.length := by omega
      have HRS : Hid (R = some acc) := hid (by rw [← HB.out, List.drop_length]; rfl)
      clear hx0
      go_wp2
      all_goals
        go_ret2
        rw [HRS.out]
        exact ⟨_, rfl, HO.out, HX.out⟩
end Go.Proofs.YthplgldclilccaaGreat

namespace Go.Proofs.YthplgldclilccaaGreat
open Go.RowKit

set_option maxRecDepth 100000 in
set_option maxHeartbeats 8000000 in
theorem rview_coefs {S : Nat → Prop} (v : Value) (p : PZ) (x : Int) (w : World) (h : RTs S w v p) (hS : ∀ k, S k → k < w.heap.size) (hc : canP p) (hsz : szP p) (hx : 1 ≤ x ∧ x ≤ 200) :
    Calls Tryz.prog 40 #[v, .int .i64 x] w fun e w' => ∃ v', e = .returned v' ∧ RPs (Plus S w w') w' v' (coefsP p x) ∧ Ext w w' := by
  have hdr := degP_range hc.may x
  have hl := h.len_le
  have CD := fun (W : World) (hW : Ext w W) => rview_degree v p x W ((h.ext hW hS).old (lt_ext hS hW)) hc.may ⟨by omega, by omega⟩
  have CC := fun (W : World) (d : Int) (hW : Ext w W) (hd : -9223372036854775808 ≤ d ∧ d ≤ 9223372036854775807) => rview_coefficient (S := S) v p x d W (h.ext hW hS) (lt_ext hS hW) hc hsz hx hd
  obtain ⟨a, cap, rfl⟩ := h.form
  obtain ⟨D, hD⟩ : ∃ D : Nat, (D : Int) = degP p x := ⟨(degP p x).toNat, by omega⟩
  rw [← hD] at CD hdr
  obtain ⟨np, hnp⟩ : ∃ n, n = p.length := ⟨_, rfl⟩
  obtain ⟨N, hN⟩ : ∃ N, N = if np = 0 then 0 else D + 1 := ⟨_, rfl⟩
  obtain ⟨cl, hcl⟩ : ∃ cl, cl = coefsP p x := ⟨_, rfl⟩
  have HLN : Hid (cl.length = N) := hid (by
    rw [hcl, hN, hnp]
    unfold coefsP
    by_cases h0 : p = []
    · subst h0; rfl
    · rw [if_neg h0, if_neg (by simpa using h0), List.length_map, List.length_range]; omega)
  have HAT : Hid (∀ k, k < N → cl[k]? = some (coefP p x (k : Nat))) := hid (fun k hk => by
    rw [hN, hnp] at hk
    rw [hcl]
    unfold coefsP
    by_cases h0 : p = []
    · subst h0; simp at hk
    · rw [if_neg (by simpa using h0)] at hk
      rw [if_neg h0, List.getElem?_map, List.getElem?_range (by omega)]
      rfl)
  rw [← hnp] at CD CC hl ⊢
  rw [← hcl]
  have HCD := hid CD
  have HCC := hid CC
  have hN1 : N ≤ 10001 := by rw [hN]; split <;> omega
  clear h hc hsz CD CC hnp hcl hx hD
  go_enter Tryz.func40, Tryz.ntmps40
  go_wp2
  go_loopw [5, 6] (fun o i wr => ∃ k xs, k ≤ N ∧ i = .int .i64 (k : Nat) ∧ Ext w wr ∧ Hid (wr.ownsRow w.heap.size 36 1 o k xs) ∧ Hid (CellsP (Off S w wr o) wr xs (cl.take k))) (fun _ i _ => N - (intOf i).toNat)
  case atStart => exact ⟨0, [], Nat.zero_le _, rfl, Ext.refl _, hid (World.ownsRow_nil _ _ _ _), hid (CellsP.nil _ _)⟩
  case round =>
    obtain ⟨k, xs, hk, rfl, hx0, HW, HXS⟩ := hrel
    have HX := hid hx0
    have HCD1 := hid (HCD.out wr hx0)
    have HWX := hid (fun (W : World) (hx1 : Ext wr W) => And.intro (own_ext HW.out hx1) (cellsP_ext hS HX.out HXS.out hx1))
    clear hx0
    by_cases hlt : k < N
    · have hnp0 : np ≠ 0 := fun e => by rw [hN, if_pos e] at hlt; omega
      have hkD : k ≤ D := by rw [hN, if_neg hnp0] at hlt; omega
      have q1 : decide ((k : Int) ≤ (D : Int)) = true := decide_eq_true (by omega)
      have q2 : decide ((0 : Int) < (np : Int)) = true := decide_eq_true (by omega)
      have HTK : Hid (cl.take (k + 1) = cl.take k ++ [coefP p x (k : Nat)]) := hid (by rw [List.take_add_one, HAT.out k hlt]; rfl)
      have HNK := hid hN
      clear hN
      go_wp2_with fail
      (with_reducible refine HCD1.out.mono ?_)
      rintro e w1 ⟨rfl, hx1⟩
      have HX1 := hid (HX.out.trans hx1)
      have HY1 := hid hx1
      have HCC1 := hid (HCC.out w1 (k : Nat) HX1.out ⟨by omega, by omega⟩)
      clear hx1
      go_wp2_with fail
      (with_reducible refine HCC1.out.mono ?_)
      rintro e w2 ⟨v2, rfl, hp2, hx2⟩
      have HX2 := hid (HX1.out.trans hx2)
      have HW2 := hid (own_ext (own_ext HW.out HY1.out) hx2)
      have HXS2 := hid (cellsP_ext hS HX1.out (cellsP_ext hS HX.out HXS.out HY1.out) hx2)
      have HP2 := hid (rts_off hS HX1.out (own_ext HW.out HY1.out) hx2 hp2)
      obtain ⟨a2, c2, rfl⟩ := hp2.form
      obtain ⟨n2, hn2⟩ : ∃ n, n = (coefP p x (k : Nat)).length := ⟨_, rfl⟩
      rw [← hn2] at HP2 ⊢
      clear hx2 hp2 hn2
      go_wp2_with (at_builtin; refine wpList_append_new _ rfl (.tmp 19) (.tmp 24) 29 rfl w.heap.size 36 (.slice none 0 0) 1 24 Tryz.underlying29 Tryz.infoP rfl (by decide) _ k xs rfl HW2.out #[.slice a2 n2 c2] rfl (one_cell rfl) rfl (by omega) (by decide) HX2.out.size ?_; intro v3 w3 hown hg hbk; have HW3 := hid hown; have HG3 := hid hg; have HBK := hid hbk; clear hown hg hbk)
      go_roundw
      case rel =>
        refine ⟨k + 1, xs ++ [.slice a2 n2 c2], by omega, by go_num, own_grown0 HX2.out HW2.out HG3.out, HW3, hid ?_⟩
        rw [HTK.out]
        exact cellsP_grown hS HX2.out (HXS2.out.snoc HP2.out) HG3.out HBK.out
      case measure => simp only [intOf]; omega
    · obtain rfl : k = N := by omega
      have HTK : Hid (cl.take k = cl) := hid (List.take_of_length_le (by rw [HLN.out]; exact Nat.le_refl _))
      by_cases hnp0 : np = 0
      · have hk0 : k = 0 := by rw [hN, if_pos hnp0]
        have q1 : decide (((0 : Nat) : Int) ≤ (D : Int)) = true := decide_eq_true (by omega)
        subst hnp0
        clear hN
        subst hk0
        go_wp2_with fail
        (with_reducible refine HCD1.out.mono ?_)
        rintro e w1 ⟨rfl, hx1⟩
        have HX1 := hid (HX.out.trans hx1)
        have HWX1 := hid (HWX.out w1 hx1)
        clear hx1
        go_wp2
        all_goals
          go_ret
          refine ⟨_, rfl, ?_, HX1.out⟩
          have hc := HWX1.out.2
          rw [HTK.out] at hc
          exact own_rps (by rw [HLN.out]; exact HWX1.out.1) (hc.to (Kept.refl _ _) (fun _ h => h.1)) (fun k h1 h2 => .inr ⟨h1, h2⟩)
      · have hk0 : k = D + 1 := by rw [hN, if_neg hnp0]
        have q1 : decide ((k : Int) ≤ (D : Int)) = false := decide_eq_false (by omega)
        have q3 : D < k := by omega
        clear hN hk0
        go_wp2_with fail
        (with_reducible refine HCD1.out.mono ?_)
        rintro e w1 ⟨rfl, hx1⟩
        have HX1 := hid (HX.out.trans hx1)
        have HWX1 := hid (HWX.out w1 hx1)
        clear hx1
        go_wp2
        all_goals
          go_ret
          refine ⟨_, rfl, ?_, HX1.out⟩
          have hc := HWX1.out.2
          rw [HTK.out] at hc
          exact own_rps (by rw [HLN.out]; exact HWX1.out.1) (hc.to (Kept.refl _ _) (fun _ h => h.1)) (fun k h1 h2 => .inr ⟨h1, h2⟩)
end Go.Proofs.YthplgldclilccaaGreat

namespace Go.Proofs.YthplgldclilccaaGreat
open Go.RowKit

set_option maxRecDepth 100000 in
set_option maxHeartbeats 8000000 in
theorem picks_coef_no (w : World) (v d : Int) (bv bd : Nat) (g : ¬ (1 ≤ v ∧ v ≤ 200)) (hv : inI64 v) (c1 : w.cell? ⟨bv, 0, none⟩ = some (.int .i64 v)) (_ : w.cell? ⟨bd, 0, none⟩ = some (.int .i64 d)) :
    Picks w 72 #[.pointer (some ⟨bv, 0, none⟩), .pointer (some ⟨bd, 0, none⟩)] (fun _ => none) := by
  rintro vt t W hW ⟨vm, vo, rfl, hu, hp⟩ hm
  have HX := hid (Ext.alloc (Ext.refl W) (.cells #[.bool t.c.neg, vm, vo] 76))
  have k1 := (hW.trans HX.out).drew.cell c1
  have k3 : (W.alloc (.cells #[.bool t.c.neg, vm, vo] 76)).drew.cell? ⟨W.heap.size, 2, none⟩ = some vo := cell_new W #[.bool t.c.neg, vm, vo] 76 (b := W.heap.size) (i := 2) (v := vo) rfl rfl
  have S0 : _ ∧ _ := And.intro k1 k3
  have HS0 := hid S0
  have HD := hid (fun (Y : World) (hY : Ext W Y) => mono_without (S := Old W) vo t.m v Y (hp.ext hY (fun _ h => h)) (fun _ h => Nat.lt_of_lt_of_le h hY.size) hv)
  obtain ⟨am, cm, rfl⟩ := hu.form
  obtain ⟨ao, co, rfl⟩ := hp.form
  have HX0 := hid HX.out.drew
  obtain ⟨hv1, hv2⟩ := hv
  have HD1 := hid (HD.out _ HX0.out)
  clear hu hp hW hm k1 k3 c1 S0 HD
  show Calls Tryz.prog 72 #[_, _, _] W _
  by_cases hlo : 1 ≤ v
  · have hq2 : decide (1 ≤ v) = true := decide_eq_true hlo
    have hq : decide (v ≤ 200) = false := decide_eq_false (by omega)
    go_enter Tryz.func72, Tryz.ntmps72
    go_wp2
    refine wp_region_held_drew (S := fun Y => Y.cell? ⟨bv, 0, none⟩ = some (.int .i64 v) ∧ Y.cell? ⟨W.heap.size, 2, none⟩ = some (.slice ao t.m.length co)) (by kernel_rfl) HS0.out (fun hHeld => ?_)
    refine wpAnyH_take (i := 0) (v := ?vv1) (by simp only [List.getElem?_toArray, List.getElem?_cons_zero]; rfl) (by kernel_rfl) (by kernel_rfl) (by kernel_rfl) (by intro _ _ _ h; exact h) (Or.inl ⟨by rfl, ?hy1⟩) hHeld ?rest1
    case hy1 => (intro w hSw; (try dsimp only at hSw); go_simp; first | done | with_reducible rfl)
    (try simp only [Act.put, List.setIfInBounds_toArray, List.set_cons_zero, List.set_cons_succ])
    refine wpAnyH_take (i := 1) (v := ?vv2) (by simp only [List.getElem?_toArray, List.getElem?_cons_succ, List.getElem?_cons_zero]; rfl) (by kernel_rfl) (by kernel_rfl) (by kernel_rfl) (by intro _ _ _ h; exact h) (Or.inl ⟨by rfl, ?hy2⟩) hHeld ?rest2
    case hy2 => (intro w hSw; (try dsimp only at hSw); go_simp; first | done | with_reducible rfl)
    (try simp only [Act.put, List.setIfInBounds_toArray, List.set_cons_zero, List.set_cons_succ])
    refine wpAnyH_take (i := 2) (v := ?vv3) (by simp only [List.getElem?_toArray, List.getElem?_cons_succ, List.getElem?_cons_zero]; rfl) (by kernel_rfl) (by kernel_rfl) (by kernel_rfl) (by intro _ _ _ h; exact h) (Or.inl ⟨by rfl, ?hy3⟩) hHeld ?rest3
    case hy3 => (intro w hSw; (try dsimp only at hSw); go_simp; first | done | with_reducible rfl)
    (try simp only [Act.put, List.setIfInBounds_toArray, List.set_cons_zero, List.set_cons_succ])
    refine wpAnyH_take (i := 4) (v := ?vv4) (by simp only [List.getElem?_toArray, List.getElem?_cons_succ, List.getElem?_cons_zero]; rfl) (by kernel_rfl) (by kernel_rfl) (by kernel_rfl) (by intro _ _ _ h; exact h) (Or.inl ⟨by rfl, ?hy4⟩) hHeld ?rest4
    case hy4 => (intro w hSw; (try dsimp only at hSw); go_simp; first | done | with_reducible rfl)
    (try simp only [Act.put, List.setIfInBounds_toArray, List.set_cons_zero, List.set_cons_succ])
    refine wpAnyH_take (i := 5) (v := ?vv5) (by simp only [List.getElem?_toArray, List.getElem?_cons_succ, List.getElem?_cons_zero]; rfl) (by kernel_rfl) (by kernel_rfl) (by kernel_rfl) (by intro _ _ _ h; exact h) (Or.inl ⟨by rfl, ?hy5⟩) hHeld ?rest5
    case hy5 => (intro w hSw; (try dsimp only at hSw); go_simp; first | done | with_reducible rfl)
    (try simp only [Act.put, List.setIfInBounds_toArray, List.set_cons_zero, List.set_cons_succ])
    refine wpAnyH_ready (rs := [3]) (by kernel_rfl) (by simp) ?_
    refine AllReadyH.cons rfl (fun K hK => ?_) AllReadyH.nil
    go_simp
    go_at_call 73
    (with_reducible refine HD1.out.mono ?_)
    rintro e w1 ⟨v1, rfl, hp1, hx1⟩
    have HX1 := hid (HX0.out.trans hx1)
    have HS1 := hid (And.intro (hx1.cell HS0.out.1) (hx1.cell HS0.out.2))
    obtain ⟨a1, c1, rfl⟩ := hp1.form
    clear hp1 hx1 hHeld
    refine hK.out _ _ HS1.out (fun hHeld => ?_)
    clear hK K
    (try simp only [Act.put, List.setIfInBounds_toArray, List.set_cons_zero, List.set_cons_succ])
    refine wpAnyH_take (i := 6) (v := ?vv6) (by simp only [List.getElem?_toArray, List.getElem?_cons_succ, List.getElem?_cons_zero]; rfl) (by kernel_rfl) (by kernel_rfl) (by kernel_rfl) (by intro _ _ _ h; exact h) (Or.inl ⟨by rfl, ?hy6⟩) hHeld ?rest6
    case hy6 => (intro w hSw; (try dsimp only at hSw); go_simp; first | done | with_reducible rfl)
    (try simp only [Act.put, List.setIfInBounds_toArray, List.set_cons_zero, List.set_cons_succ])
    refine wpAnyH_take (i := 7) (v := ?vv7) (by simp only [List.getElem?_toArray, List.getElem?_cons_succ, List.getElem?_cons_zero]; rfl) (by kernel_rfl) (by kernel_rfl) (by kernel_rfl) (by intro _ _ _ h; exact h) (Or.inl ⟨by rfl, ?hy7⟩) hHeld ?rest7
    case hy7 => (intro w hSw; (try dsimp only at hSw); go_simp; first | done | with_reducible rfl)
    (try simp only [Act.put, List.setIfInBounds_toArray, List.set_cons_zero, List.set_cons_succ])
    refine wpAnyH_take (i := 8) (v := ?vv8) (by simp only [List.getElem?_toArray, List.getElem?_cons_succ, List.getElem?_cons_zero]; rfl) (by kernel_rfl) (by kernel_rfl) (by kernel_rfl) (by intro _ _ _ h; exact h) (Or.inl ⟨by rfl, ?hy8⟩) hHeld ?rest8
    case hy8 => (intro w hSw; (try dsimp only at hSw); go_simp; first | done | with_reducible rfl)
    (try simp only [Act.put, List.setIfInBounds_toArray, List.set_cons_zero, List.set_cons_succ])
    refine wpAnyH_take (i := 9) (v := ?vv9) (by simp only [List.getElem?_toArray, List.getElem?_cons_succ, List.getElem?_cons_zero]; rfl) (by kernel_rfl) (by kernel_rfl) (by kernel_rfl) (by intro _ _ _ h; exact h) (Or.inl ⟨by rfl, ?hy9⟩) hHeld ?rest9
    case hy9 => (intro w hSw; (try dsimp only at hSw); go_simp; first | done | with_reducible rfl)
    (try simp only [Act.put, List.setIfInBounds_toArray, List.set_cons_zero, List.set_cons_succ])
    refine wpAnyH_take (i := 10) (v := ?vv10) (by simp only [List.getElem?_toArray, List.getElem?_cons_succ, List.getElem?_cons_zero]; rfl) (by kernel_rfl) (by kernel_rfl) (by kernel_rfl) (by intro _ _ _ h; exact h) (Or.inl ⟨by rfl, ?hy10⟩) hHeld ?rest10
    case hy10 => (intro w hSw; (try dsimp only at hSw); go_simp; first | done | with_reducible rfl)
    (try simp only [Act.put, List.setIfInBounds_toArray, List.set_cons_zero, List.set_cons_succ])
    refine wpAnyH_take (i := 11) (v := undef) (by simp only [List.getElem?_toArray, List.getElem?_cons_succ, List.getElem?_cons_zero]; rfl) (by kernel_rfl) (by kernel_rfl) (by kernel_rfl) (by intro _ _ _ h; exact h) (Or.inr ⟨by rfl, rfl⟩) hHeld ?_
    (try simp only [Act.put, List.setIfInBounds_toArray, List.set_cons_zero, List.set_cons_succ])
    refine wpAnyH_take (i := 12) (v := undef) (by simp only [List.getElem?_toArray, List.getElem?_cons_succ, List.getElem?_cons_zero]; rfl) (by kernel_rfl) (by kernel_rfl) (by kernel_rfl) (by intro _ _ _ h; exact h) (Or.inr ⟨by rfl, rfl⟩) hHeld ?_
    (try simp only [Act.put, List.setIfInBounds_toArray, List.set_cons_zero, List.set_cons_succ])
    refine wpAnyH_take (i := 13) (v := undef) (by simp only [List.getElem?_toArray, List.getElem?_cons_succ, List.getElem?_cons_zero]; rfl) (by kernel_rfl) (by kernel_rfl) (by kernel_rfl) (by intro _ _ _ h; exact h) (Or.inr ⟨by rfl, rfl⟩) hHeld ?_
    (try simp only [Act.put, List.setIfInBounds_toArray, List.set_cons_zero, List.set_cons_succ])
    refine wpAnyH_take (i := 14) (v := undef) (by simp only [List.getElem?_toArray, List.getElem?_cons_succ, List.getElem?_cons_zero]; rfl) (by kernel_rfl) (by kernel_rfl) (by kernel_rfl) (by intro _ _ _ h; exact h) (Or.inr ⟨by rfl, rfl⟩) hHeld ?_
    (try simp only [Act.put, List.setIfInBounds_toArray, List.set_cons_zero, List.set_cons_succ])
    refine wpAnyH_take (i := 15) (v := undef) (by simp only [List.getElem?_toArray, List.getElem?_cons_succ, List.getElem?_cons_zero]; rfl) (by kernel_rfl) (by kernel_rfl) (by kernel_rfl) (by intro _ _ _ h; exact h) (Or.inr ⟨by rfl, rfl⟩) hHeld ?_
    (try simp only [Act.put, List.setIfInBounds_toArray, List.set_cons_zero, List.set_cons_succ])
    refine wpAnyH_take (i := 16) (v := undef) (by simp only [List.getElem?_toArray, List.getElem?_cons_succ, List.getElem?_cons_zero]; rfl) (by kernel_rfl) (by kernel_rfl) (by kernel_rfl) (by intro _ _ _ h; exact h) (Or.inr ⟨by rfl, rfl⟩) hHeld ?_
    (try simp only [Act.put, List.setIfInBounds_toArray, List.set_cons_zero, List.set_cons_succ])
    refine wpAnyH_take (i := 17) (v := ?vv11) (by simp only [List.getElem?_toArray, List.getElem?_cons_succ, List.getElem?_cons_zero]; rfl) (by kernel_rfl) (by kernel_rfl) (by kernel_rfl) (by intro _ _ _ h; exact h) (Or.inl ⟨by rfl, ?hy11⟩) hHeld ?rest11
    case hy11 => (intro w hSw; (try dsimp only at hSw); go_simp; first | done | with_reducible rfl)
    (try simp only [Act.put, List.setIfInBounds_toArray, List.set_cons_zero, List.set_cons_succ])
    refine wpAnyH_take (i := 18) (v := ?vv12) (by simp only [List.getElem?_toArray, List.getElem?_cons_succ, List.getElem?_cons_zero]; rfl) (by kernel_rfl) (by kernel_rfl) (by kernel_rfl) (by intro _ _ _ h; exact h) (Or.inl ⟨by rfl, ?hy12⟩) hHeld ?rest12
    case hy12 => (intro w hSw; (try dsimp only at hSw); go_simp; first | done | with_reducible rfl)
    (try simp only [Act.put, List.setIfInBounds_toArray, List.set_cons_zero, List.set_cons_succ])
    refine wpAnyH_take (i := 19) (v := ?vv13) (by simp only [List.getElem?_toArray, List.getElem?_cons_succ, List.getElem?_cons_zero]; rfl) (by kernel_rfl) (by kernel_rfl) (by kernel_rfl) (by intro _ _ _ h; exact h) (Or.inl ⟨by rfl, ?hy13⟩) hHeld ?rest13
    case hy13 => (intro w hSw; (try dsimp only at hSw); go_simp; first | done | with_reducible rfl)
    (try simp only [Act.put, List.setIfInBounds_toArray, List.set_cons_zero, List.set_cons_succ])
    refine wpAnyH_done (by kernel_rfl) ?_ _
    go_wp2
    all_goals
      go_ret2
      exact ⟨_, rfl, HX1.out, fun m hm => by cases hm⟩
  · have hq2 : decide (1 ≤ v) = false := decide_eq_false hlo
    go_enter Tryz.func72, Tryz.ntmps72
    go_wp2
    refine wp_region_held_drew (S := fun Y => Y.cell? ⟨bv, 0, none⟩ = some (.int .i64 v) ∧ Y.cell? ⟨W.heap.size, 2, none⟩ = some (.slice ao t.m.length co)) (by kernel_rfl) HS0.out (fun hHeld => ?_)
    refine wpAnyH_take (i := 0) (v := ?vv14) (by simp only [List.getElem?_toArray, List.getElem?_cons_zero]; rfl) (by kernel_rfl) (by kernel_rfl) (by kernel_rfl) (by intro _ _ _ h; exact h) (Or.inl ⟨by rfl, ?hy14⟩) hHeld ?rest14
    case hy14 => (intro w hSw; (try dsimp only at hSw); go_simp; first | done | with_reducible rfl)
    (try simp only [Act.put, List.setIfInBounds_toArray, List.set_cons_zero, List.set_cons_succ])
    refine wpAnyH_take (i := 1) (v := ?vv15) (by simp only [List.getElem?_toArray, List.getElem?_cons_succ, List.getElem?_cons_zero]; rfl) (by kernel_rfl) (by kernel_rfl) (by kernel_rfl) (by intro _ _ _ h; exact h) (Or.inl ⟨by rfl, ?hy15⟩) hHeld ?rest15
    case hy15 => (intro w hSw; (try dsimp only at hSw); go_simp; first | done | with_reducible rfl)
    (try simp only [Act.put, List.setIfInBounds_toArray, List.set_cons_zero, List.set_cons_succ])
    refine wpAnyH_take (i := 2) (v := ?vv16) (by simp only [List.getElem?_toArray, List.getElem?_cons_succ, List.getElem?_cons_zero]; rfl) (by kernel_rfl) (by kernel_rfl) (by kernel_rfl) (by intro _ _ _ h; exact h) (Or.inl ⟨by rfl, ?hy16⟩) hHeld ?rest16
    case hy16 => (intro w hSw; (try dsimp only at hSw); go_simp; first | done | with_reducible rfl)
    (try simp only [Act.put, List.setIfInBounds_toArray, List.set_cons_zero, List.set_cons_succ])
    refine wpAnyH_take (i := 4) (v := ?vv17) (by simp only [List.getElem?_toArray, List.getElem?_cons_succ, List.getElem?_cons_zero]; rfl) (by kernel_rfl) (by kernel_rfl) (by kernel_rfl) (by intro _ _ _ h; exact h) (Or.inl ⟨by rfl, ?hy17⟩) hHeld ?rest17
    case hy17 => (intro w hSw; (try dsimp only at hSw); go_simp; first | done | with_reducible rfl)
    (try simp only [Act.put, List.setIfInBounds_toArray, List.set_cons_zero, List.set_cons_succ])
    refine wpAnyH_take (i := 5) (v := ?vv18) (by simp only [List.getElem?_toArray, List.getElem?_cons_succ, List.getElem?_cons_zero]; rfl) (by kernel_rfl) (by kernel_rfl) (by kernel_rfl) (by intro _ _ _ h; exact h) (Or.inl ⟨by rfl, ?hy18⟩) hHeld ?rest18
    case hy18 => (intro w hSw; (try dsimp only at hSw); go_simp; first | done | with_reducible rfl)
    (try simp only [Act.put, List.setIfInBounds_toArray, List.set_cons_zero, List.set_cons_succ])
    refine wpAnyH_ready (rs := [3]) (by kernel_rfl) (by simp) ?_
    refine AllReadyH.cons rfl (fun K hK => ?_) AllReadyH.nil
    go_simp
    go_at_call 73
    (with_reducible refine HD1.out.mono ?_)
    rintro e w1 ⟨v1, rfl, hp1, hx1⟩
    have HX1 := hid (HX0.out.trans hx1)
    have HS1 := hid (And.intro (hx1.cell HS0.out.1) (hx1.cell HS0.out.2))
    obtain ⟨a1, c1, rfl⟩ := hp1.form
    clear hp1 hx1 hHeld
    refine hK.out _ _ HS1.out (fun hHeld => ?_)
    clear hK K
    (try simp only [Act.put, List.setIfInBounds_toArray, List.set_cons_zero, List.set_cons_succ])
    refine wpAnyH_take (i := 6) (v := ?vv19) (by simp only [List.getElem?_toArray, List.getElem?_cons_succ, List.getElem?_cons_zero]; rfl) (by kernel_rfl) (by kernel_rfl) (by kernel_rfl) (by intro _ _ _ h; exact h) (Or.inl ⟨by rfl, ?hy19⟩) hHeld ?rest19
    case hy19 => (intro w hSw; (try dsimp only at hSw); go_simp; first | done | with_reducible rfl)
    (try simp only [Act.put, List.setIfInBounds_toArray, List.set_cons_zero, List.set_cons_succ])
    refine wpAnyH_take (i := 7) (v := undef) (by simp only [List.getElem?_toArray, List.getElem?_cons_succ, List.getElem?_cons_zero]; rfl) (by kernel_rfl) (by kernel_rfl) (by kernel_rfl) (by intro _ _ _ h; exact h) (Or.inr ⟨by rfl, rfl⟩) hHeld ?_
    (try simp only [Act.put, List.setIfInBounds_toArray, List.set_cons_zero, List.set_cons_succ])
    refine wpAnyH_take (i := 8) (v := undef) (by simp only [List.getElem?_toArray, List.getElem?_cons_succ, List.getElem?_cons_zero]; rfl) (by kernel_rfl) (by kernel_rfl) (by kernel_rfl) (by intro _ _ _ h; exact h) (Or.inr ⟨by rfl, rfl⟩) hHeld ?_
    (try simp only [Act.put, List.setIfInBounds_toArray, List.set_cons_zero, List.set_cons_succ])
    refine wpAnyH_take (i := 9) (v := ?vv20) (by simp only [List.getElem?_toArray, List.getElem?_cons_succ, List.getElem?_cons_zero]; rfl) (by kernel_rfl) (by kernel_rfl) (by kernel_rfl) (by intro _ _ _ h; exact h) (Or.inl ⟨by rfl, ?hy20⟩) hHeld ?rest20
    case hy20 => (intro w hSw; (try dsimp only at hSw); go_simp; first | done | with_reducible rfl)
    (try simp only [Act.put, List.setIfInBounds_toArray, List.set_cons_zero, List.set_cons_succ])
    refine wpAnyH_take (i := 10) (v := ?vv21) (by simp only [List.getElem?_toArray, List.getElem?_cons_succ, List.getElem?_cons_zero]; rfl) (by kernel_rfl) (by kernel_rfl) (by kernel_rfl) (by intro _ _ _ h; exact h) (Or.inl ⟨by rfl, ?hy21⟩) hHeld ?rest21
    case hy21 => (intro w hSw; (try dsimp only at hSw); go_simp; first | done | with_reducible rfl)
    (try simp only [Act.put, List.setIfInBounds_toArray, List.set_cons_zero, List.set_cons_succ])
    refine wpAnyH_take (i := 11) (v := undef) (by simp only [List.getElem?_toArray, List.getElem?_cons_succ, List.getElem?_cons_zero]; rfl) (by kernel_rfl) (by kernel_rfl) (by kernel_rfl) (by intro _ _ _ h; exact h) (Or.inr ⟨by rfl, rfl⟩) hHeld ?_
    (try simp only [Act.put, List.setIfInBounds_toArray, List.set_cons_zero, List.set_cons_succ])
    refine wpAnyH_take (i := 12) (v := undef) (by simp only [List.getElem?_toArray, List.getElem?_cons_succ, List.getElem?_cons_zero]; rfl) (by kernel_rfl) (by kernel_rfl) (by kernel_rfl) (by intro _ _ _ h; exact h) (Or.inr ⟨by rfl, rfl⟩) hHeld ?_
    (try simp only [Act.put, List.setIfInBounds_toArray, List.set_cons_zero, List.set_cons_succ])
    refine wpAnyH_take (i := 13) (v := undef) (by simp only [List.getElem?_toArray, List.getElem?_cons_succ, List.getElem?_cons_zero]; rfl) (by kernel_rfl) (by kernel_rfl) (by kernel_rfl) (by intro _ _ _ h; exact h) (Or.inr ⟨by rfl, rfl⟩) hHeld ?_
    (try simp only [Act.put, List.setIfInBounds_toArray, List.set_cons_zero, List.set_cons_succ])
    refine wpAnyH_take (i := 14) (v := undef) (by simp only [List.getElem?_toArray, List.getElem?_cons_succ, List.getElem?_cons_zero]; rfl) (by kernel_rfl) (by kernel_rfl) (by kernel_rfl) (by intro _ _ _ h; exact h) (Or.inr ⟨by rfl, rfl⟩) hHeld ?_
    (try simp only [Act.put, List.setIfInBounds_toArray, List.set_cons_zero, List.set_cons_succ])
    refine wpAnyH_take (i := 15) (v := undef) (by simp only [List.getElem?_toArray, List.getElem?_cons_succ, List.getElem?_cons_zero]; rfl) (by kernel_rfl) (by kernel_rfl) (by kernel_rfl) (by intro _ _ _ h; exact h) (Or.inr ⟨by rfl, rfl⟩) hHeld ?_
    (try simp only [Act.put, List.setIfInBounds_toArray, List.set_cons_zero, List.set_cons_succ])
    refine wpAnyH_take (i := 16) (v := undef) (by simp only [List.getElem?_toArray, List.getElem?_cons_succ, List.getElem?_cons_zero]; rfl) (by kernel_rfl) (by kernel_rfl) (by kernel_rfl) (by intro _ _ _ h; exact h) (Or.inr ⟨by rfl, rfl⟩) hHeld ?_
    (try simp only [Act.put, List.setIfInBounds_toArray, List.set_cons_zero, List.set_cons_succ])
    refine wpAnyH_take (i := 17) (v := ?vv22) (by simp only [List.getElem?_toArray, List.getElem?_cons_succ, List.getElem?_cons_zero]; rfl) (by kernel_rfl) (by kernel_rfl) (by kernel_rfl) (by intro _ _ _ h; exact h) (Or.inl ⟨by rfl, ?hy22⟩) hHeld ?rest22
    case hy22 => (intro w hSw; (try dsimp only at hSw); go_simp; first | done | with_reducible rfl)
    (try simp only [Act.put, List.setIfInBounds_toArray, List.set_cons_zero, List.set_cons_succ])
    refine wpAnyH_take (i := 18) (v := ?vv23) (by simp only [List.getElem?_toArray, List.getElem?_cons_succ, List.getElem?_cons_zero]; rfl) (by kernel_rfl) (by kernel_rfl) (by kernel_rfl) (by intro _ _ _ h; exact h) (Or.inl ⟨by rfl, ?hy23⟩) hHeld ?rest23
    case hy23 => (intro w hSw; (try dsimp only at hSw); go_simp; first | done | with_reducible rfl)
    (try simp only [Act.put, List.setIfInBounds_toArray, List.set_cons_zero, List.set_cons_succ])
    refine wpAnyH_take (i := 19) (v := ?vv24) (by simp only [List.getElem?_toArray, List.getElem?_cons_succ, List.getElem?_cons_zero]; rfl) (by kernel_rfl) (by kernel_rfl) (by kernel_rfl) (by intro _ _ _ h; exact h) (Or.inl ⟨by rfl, ?hy24⟩) hHeld ?rest24
    case hy24 => (intro w hSw; (try dsimp only at hSw); go_simp; first | done | with_reducible rfl)
    (try simp only [Act.put, List.setIfInBounds_toArray, List.set_cons_zero, List.set_cons_succ])
    refine wpAnyH_done (by kernel_rfl) ?_ _
    go_wp2
    all_goals
      go_ret2
      exact ⟨_, rfl, HX1.out, fun m hm => by cases hm⟩
end Go.Proofs.YthplgldclilccaaGreat
