/- The stable sort in place, at polynomials: blocks of twenty, then merges. Some polynomials by rising ranks. The document: classes, degrees and ranks of polynomials. Which polynomials are too great for the law. Which of two lists of polynomials is lower. The document: which of two lists is lower. The document: some polynomials by rising ranks. The document's sorted polynomials are the program's. Plain. The document's sort, walked. Lists that are the same so far. The document: is it the same data? append to a slice without room: a copy in memory of its own. The document: a copy of a polynomial. -/
import Derived.Test.YthplgldclilccaaGreatProg
import Derived.Test.YthplgldclilccaaGreatSet6
namespace Go.Proofs.YthplgldclilccaaGreat
open Go.RowKit Go.Sort

section
variable {α : Type} [Inhabited α] {pc : α → PCell} {w : World} {b o : Nat} {cf : α → α → Int} {le : α → α → Bool}

theorem insertion_p' {cap l : Nat} {za zb : Int} {cur : List α} (P X T : List α) (W : World) (hc : CmpP 47 pc cf w b) (hcl : CmpLe cf le) (hcur : cur = P ++ X ++ T) (hl : l = cur.length) (hza : za = P.length) (hzb : zb = P.length + X.length) (h : SortAt (encP pc) 1 w b o cur W) (hcap : l ≤ cap) (hcap2 : l ≤ 1000000000000) :
    Calls Tryz.prog 129 #[.slice (some ⟨b, o, none⟩) l cap, .int .i64 za, .int .i64 zb, .func (.func 47) #[] #[]] W
      fun e w' => e = .returned (.tuple #[]) ∧ SortAt (encP pc) 1 w b o (P ++ sortL le X ++ T) w' := by
  subst hcur hl hza
  obtain rfl : zb = ((P.length + X.length : Nat) : Int) := by rw [hzb]; omega
  exact insertion_p cap P X T W hc hcl h hcap hcap2
theorem sym_merge_p' (hc : CmpP 47 pc cf w b) (hcl : CmpLe cf le) {cap l : Nat} (hcap2 : l ≤ 1000000000000) {za zm ze : Int} {cur : List α} (P A B T : List α) (W : World) (hA0 : 0 < A.length) (hB0 : 0 < B.length) (hA : SortedL le A) (hB : SortedL le B) (hcur : cur = P ++ A ++ B ++ T) (hl : l = cur.length) (hza : za = P.length) (hzm : zm = P.length + A.length) (hze : ze = P.length + A.length + B.length)
    (h : SortAt (encP pc) 1 w b o cur W) (hcap : l ≤ cap) :
      Calls Tryz.prog 130 #[.slice (some ⟨b, o, none⟩) l cap, .int .i64 za, .int .i64 zm, .int .i64 ze, .func (.func 47) #[] #[]] W
        fun r w' => r = .returned (.tuple #[]) ∧ SortAt (encP pc) 1 w b o (P ++ mergeL le A B ++ T) w' := by
  subst hza
  obtain rfl : zm = ((P.length + A.length : Nat) : Int) := by rw [hzm]; omega
  obtain rfl : ze = ((P.length + A.length + B.length : Nat) : Int) := by rw [hze]; omega
  exact sym_merge_p hc hcl _ P A B T cur W l _ _ _ (Nat.lt_succ_self _) hA0 hB0 hA hB hcur hl rfl rfl rfl h hcap hcap2

set_option maxRecDepth 100000 in
set_option maxHeartbeats 8000000 in
theorem stable_p {cap n : Nat} (L : List α) (W : World) (hc : CmpP 47 pc cf w b) (hcl : CmpLe cf le) (hl : n = L.length) (h : SortAt (encP pc) 1 w b o L W) (hcap : n ≤ cap) (hcap2 : n ≤ 1000000000000) :
    Calls Tryz.prog 98 #[.slice (some ⟨b, o, none⟩) n cap, .int .i64 n, .func (.func 47) #[] #[]] W
      fun e w' => e = .returned (.tuple #[]) ∧ SortAt (encP pc) 1 w b o (sortL le L) w' := by
  have H := hid h
  have HC := hid hc
  have HL := hid hcl
  have HN := hid hl
  clear h hc hcl hl
  go_enter Tryz.func98, Tryz.ntmps98
  go_wp2
  go_loopw [7, 8] (fun va vb wr => ∃ (a c : Nat) (S O R : List α), va = .int .i64 a ∧ vb = .int .i64 c ∧ a ≤ n ∧ Hid (c = a + 20) ∧ c ≤ n + 20 ∧ Hid (a = O.length) ∧ Hid (L = O ++ R) ∧ Hid (Full le 20 S O) ∧ SortAt (encP pc) 1 w b o (S ++ R) wr) (fun va vb _ => n - (intOf va).toNat)
  case atStart => exact ⟨0, 20, [], [], L, rfl, rfl, by omega, rfl, by omega, rfl, rfl, .nil, H.out⟩
  case round =>
    obtain ⟨a, c, S, O, R, rfl, rfl, han, HCA, hcn, HA, HLL, HF, hs⟩ := hrel
    have HS := hid hs
    clear hs
    have hn : n = O.length + R.length := by have := HN.out; rw [HLL.out] at this; simpa using this
    have hcl : n = (S ++ R).length := by rw [hn]; simp [HF.out.len]
    have HCL := hid hcl
    have HNN := hid hn
    clear hn hcl
    by_cases hlt : c ≤ n
    · obtain ⟨X, R', hX, hX20⟩ : ∃ X R', R = X ++ R' ∧ X.length = 20 := ⟨R.take 20, R.drop 20, (List.take_append_drop _ _).symm, by have := HNN.out; have := HA.out; have := HCA.out; rw [List.length_take]; omega⟩
      subst hX
      have HX := hid hX20
      have C := hid (insertion_p' (cap := cap) (l := n) (za := (a : Int)) (zb := (c : Int)) S X R' wr HC.out HL.out (by simp) HCL.out (by rw [HF.out.len]; have := HA.out; omega) (by rw [HF.out.len]; have := HA.out; have := HCA.out; omega) HS.out hcap hcap2)
      clear hX20
      go_wp2_with fail
      with_reducible refine C.out.mono ?_
      rintro e w2 ⟨rfl, hs2⟩
      have HS2 := hid hs2
      clear hs2
      go_wp2
      go_roundw
      case rel =>
        refine ⟨c, c + 20, S ++ sortL le X, O ++ X, R', rfl, by go_num, hlt, rfl, by omega, ?_, ?_, ?_, ?_⟩
        · show _ = _; have := HA.out; have := HX.out; have := HCA.out; simp; omega
        · show _ = _; rw [HLL.out]; simp
        · exact HF.out.snoc HX.out
        · exact HS2.out
      case measure => have := HCA.out; simp only [intOf]; omega
    · have C := hid (insertion_p' (cap := cap) (l := n) (za := (a : Int)) (zb := (n : Int)) S R [] wr HC.out HL.out (by simp) HCL.out (by rw [HF.out.len]; have := HA.out; omega) (by rw [HF.out.len]; have := HNN.out; omega) HS.out hcap hcap2)
      go_wp2_with fail
      with_reducible refine C.out.mono ?_
      rintro e w2 ⟨rfl, hs2⟩
      have HS2 := hid hs2
      have HB : Hid (Blk le 20 (S ++ sortL le R) L) := hid (by
        rw [HLL.out]
        exact HF.out.blk (.of_sort (by have := HNN.out; have := HA.out; have := HCA.out; omega)))
      clear hs2
      go_wp2
      go_loopw [6, 7, 8, 9] (fun vs va vb vm wr => ∃ (s : Nat) (za zb : Int) (cur : List α), vs = .int .i64 s ∧ va = .int .i64 za ∧ vb = .int .i64 zb ∧ 20 ≤ s ∧ s ≤ n + n + 20 ∧ Hid (Blk le s cur L) ∧ SortAt (encP pc) 1 w b o cur wr) (fun vs _ _ _ _ => n - (intOf vs).toNat)
      case atStart => exact ⟨20, a, c, _, rfl, rfl, rfl, by omega, by omega, HB, by have := HS2.out; simpa using this⟩
      case round =>
        clear HB HS2 HS HF HLL HCL HNN HCA HA hlt hcn han
        obtain ⟨s, za, zb, cur, rfl, rfl, rfl, hs20, hsn, HB, hs⟩ := hrel
        have HS := hid hs
        clear hs
        by_cases hlt : s < n
        · have HCN : Hid (n = cur.length) := hid (by rw [HN.out, HB.out.len])
          go_wp2
          go_loopw [7, 8] (fun va vb wr => ∃ (a c : Nat) (S O R O2 : List α), va = .int .i64 a ∧ vb = .int .i64 c ∧ a ≤ n ∧ Hid (c = a + (s + s)) ∧ c ≤ n + s + s ∧ Hid (a = O.length) ∧ Hid (L = O ++ O2) ∧ Hid (Full le (s + s) S O) ∧ Hid (Blk le s R O2) ∧ SortAt (encP pc) 1 w b o (S ++ R) wr) (fun va vb _ => n - (intOf va).toNat)
          case atStart => exact ⟨0, s + s, [], [], cur, L, rfl, by congr 1; omega, by omega, by show _ = _; omega, by omega, rfl, rfl, .nil, HB, HS.out⟩
          case round =>
            clear HCN HS HB
            obtain ⟨a, c, S, O, R, O2, rfl, rfl, han, HCA, hcn, HA, HLL, HF, HB, hs⟩ := hrel
            have HS := hid hs
            clear hs
            have hn : n = O.length + O2.length := by have := HN.out; rw [HLL.out] at this; simpa using this
            have hcl : n = (S ++ R).length := by rw [hn]; simp [HF.out.len, HB.out.len]
            have HCL := hid hcl
            have HNN := hid hn
            clear hn hcl
            by_cases hlt : c ≤ n
            · obtain ⟨X, Y, R', O', hR, hO, hX, hY, hB⟩ := HB.out.two (by omega) (by rw [HB.out.len]; have := HNN.out; have := HA.out; have := HCA.out; omega)
              have HX := hid (And.intro hX hY)
              have HO := hid hO
              have HB2 := hid hB
              have C := hid (sym_merge_p' HC.out HL.out (cap := cap) (l := n) hcap2 (za := (a : Int)) (zm := (a : Int) + (s : Int)) (ze := (c : Int)) (cur := S ++ R) S (sortL le X) (sortL le Y) R' wr (by rw [sortL_len]; omega) (by rw [sortL_len]; omega) (sortL_sorted HL.out.total X) (sortL_sorted HL.out.total Y) (by rw [hR]; simp) HCL.out (by rw [HF.out.len]; have := HA.out; omega) (by rw [HF.out.len, sortL_len]; have := HA.out; omega) (by rw [HF.out.len, sortL_len, sortL_len]; have := HA.out; have := HCA.out; omega) HS.out hcap)
              clear hR hO hX hY hB
              go_wp2_with fail
              with_reducible refine C.out.mono ?_
              rintro e w2 ⟨rfl, hs2⟩
              have HS2 := hid hs2
              clear hs2
              go_wp2
              go_roundw
              case rel =>
                refine ⟨c, c + (s + s), S ++ sortL le (X ++ Y), O ++ (X ++ Y), R', O', rfl, by congr 1; omega, hlt, rfl, by omega, ?_, ?_, ?_, HB2, ?_⟩
                · show _ = _; have := HA.out; have := HX.out; have := HCA.out; simp; omega
                · show _ = _; rw [HLL.out, HO.out]; simp
                · exact HF.out.snoc (by have := HX.out; simp; omega)
                · rw [sortL_append HL.out.total]
                  exact HS2.out
              case measure => have := HCA.out; simp only [intOf]; omega
            · by_cases hm : a + s < n
              · obtain ⟨X, Y, hR, hO, hX, hY⟩ := HB.out.part (by omega) (by rw [HB.out.len]; have := HNN.out; have := HA.out; omega) (by rw [HB.out.len]; have := HNN.out; have := HA.out; have := HCA.out; omega)
                have C := hid (sym_merge_p' HC.out HL.out (cap := cap) (l := n) hcap2 (za := (a : Int)) (zm := (a : Int) + (s : Int)) (ze := (n : Int)) (cur := S ++ R) S (sortL le X) (sortL le Y) [] wr (by rw [sortL_len]; omega) (by rw [sortL_len]; omega) (sortL_sorted HL.out.total X) (sortL_sorted HL.out.total Y) (by rw [hR]; simp) HCL.out (by rw [HF.out.len]; have := HA.out; omega) (by rw [HF.out.len, sortL_len]; have := HA.out; omega) (by rw [HF.out.len, sortL_len, sortL_len]; have h1 := HNN.out; rw [hO] at h1; simp at h1; omega) HS.out hcap)
                have HBB : Hid (Blk le (s + s) (S ++ mergeL le (sortL le X) (sortL le Y)) L) := hid (by
                  rw [HLL.out, hO, ← sortL_append HL.out.total]
                  refine HF.out.blk (.of_sort ?_)
                  have h1 := HNN.out
                  have h2 := HA.out
                  have h3 := HCA.out
                  rw [hO] at h1
                  omega)
                clear hR hO hX hY
                have q1 : (a : Int) + (s : Int) < (n : Int) := by omega
                go_wp2_with fail
                with_reducible refine C.out.mono ?_
                rintro e w2 ⟨rfl, hs2⟩
                have HS2 := hid hs2
                clear hs2
                go_wp2
                go_roundw
                case rel => exact ⟨s + s, _, _, _, by congr 1; omega, rfl, rfl, by omega, by omega, HBB, by have := HS2.out; simpa using this⟩
                case measure => simp only [intOf]; omega
              · have HBB : Hid (Blk le (s + s) (S ++ R) L) := hid (by
                  rw [HB.out.one (by rw [HB.out.len]; have := HNN.out; have := HA.out; omega), HLL.out]
                  refine HF.out.blk (.of_sort ?_)
                  have h1 := HNN.out
                  have h2 := HA.out
                  omega)
                have q1 : (n : Int) ≤ (a : Int) + (s : Int) := by omega
                go_wp2
                go_roundw
                case rel => exact ⟨s + s, _, _, _, by congr 1; omega, rfl, rfl, by omega, by omega, HBB, HS.out⟩
                case measure => simp only [intOf]; omega
        · have HF : Hid (SortAt (encP pc) 1 w b o (sortL le L) wr) := hid (by
            have := HB.out.one (by rw [HB.out.len, ← HN.out]; omega)
            rw [← this]
            exact HS.out)
          go_wp2
          go_end0
          exact ⟨rfl, HF.out⟩

set_option maxRecDepth 100000 in
theorem sort_p {cap n : Nat} (L : List α) (W : World) (hc : CmpP 47 pc cf w b) (hcl : CmpLe cf le) (hl : n = L.length) (h : SortAt (encP pc) 1 w b o L W) (hcap : n ≤ cap) (hcap2 : n ≤ 1000000000000) :
    Calls Tryz.prog 50 #[.slice (some ⟨b, o, none⟩) n cap, .func (.func 47) #[] #[]] W
      fun e w' => e = .returned (.tuple #[]) ∧ SortAt (encP pc) 1 w b o (sortL le L) w' := by
  have C := hid (stable_p L W hc hcl hl h hcap hcap2)
  clear hc hcl hl h
  go_enter Tryz.func50, Tryz.ntmps50
  go_wp2_with fail
  with_reducible refine C.out.mono ?_
  rintro e w2 ⟨rfl, hs2⟩
  have HS2 := hid hs2
  clear hs2
  go_wp2
  go_end0
  exact ⟨rfl, HS2.out⟩
end
end Go.Proofs.YthplgldclilccaaGreat

namespace Go.Proofs.YthplgldclilccaaGreat
open Go.RowKit Go.Sort

/-- the cells of a slice of polynomials -/
def CellsL (S : Nat → Prop) (w : World) (xs : List Value) (l : List (List RTerm)) : Prop := xs.length = l.length ∧ ∀ (j : Nat) (p : List RTerm), l[j]? = some p → ∃ vp, xs[j]? = some vp ∧ Terms S w vp p
theorem CellsL.nil (S : Nat → Prop) (w : World) : CellsL S w [] [] := ⟨rfl, fun j p h => by simp at h⟩
theorem CellsL.to {S S' : Nat → Prop} {w w' : World} {xs : List Value} {l : List (List RTerm)} (h : CellsL S w xs l) (hk : Kept S w w') (hS : ∀ k, S k → S' k) : CellsL S' w' xs l :=
  ⟨h.1, fun j p hj => by
    obtain ⟨vp, h1, h2⟩ := h.2 j p hj
    exact ⟨vp, h1, h2.to hk hS⟩⟩
theorem CellsL.snoc {S : Nat → Prop} {w : World} {xs : List Value} {l : List (List RTerm)} {v : Value} {p : List RTerm} (h : CellsL S w xs l) (hv : Terms S w v p) : CellsL S w (xs ++ [v]) (l ++ [p]) := by
  refine ⟨by simp [h.1], fun j q hj => ?_⟩
  by_cases hlt : j < l.length
  · rw [List.getElem?_append_left hlt] at hj
    rw [List.getElem?_append_left (by rw [h.1]; exact hlt)]
    exact h.2 j q hj
  · have hj2 := lt_of_some hj
    simp only [List.length_append, List.length_cons, List.length_nil] at hj2
    obtain rfl : j = l.length := by omega
    rw [List.getElem?_append_right (Nat.le_refl _), Nat.sub_self] at hj
    obtain rfl : p = q := by simpa using hj
    refine ⟨v, ?_, hv⟩
    rw [← h.1, List.getElem?_append_right (Nat.le_refl _), Nat.sub_self]
    rfl
theorem Polys.nilv (S : Nat → Prop) (w : World) (a : Option Addr) (cap : Nat) (h : cap ≤ 9223372036854775807) : Polys S w (.slice a 0 cap) [] :=
  ⟨0, 0, ⟨a, cap, rfl, Nat.zero_le _, h, fun h => absurd h (Nat.lt_irrefl 0), fun h => absurd h (Nat.lt_irrefl 0)⟩, fun j t hj => by simp at hj⟩
theorem own_polys {S : Nat → Prop} {w : World} {base : Nat} {e : TypeId} {v : Value} {xs : List Value} {l : List (List RTerm)} (h : w.ownsRow base e 1 v l.length xs) (hc : CellsL S w xs l) (hB : ∀ k, base ≤ k → k < w.heap.size → S k) : Polys S w v l := by
  have hlt := h.lt
  rcases h.2 with ⟨rfl, h0⟩ | ⟨g, cap, cur, rfl, hg, hh, h1, h2, h3, h4⟩
  · obtain rfl : l = [] := List.length_eq_zero_iff.1 h0
    exact Polys.nilv _ _ _ _ (by decide)
  · refine ⟨g, 0, ⟨_, cap, rfl, h1, h2, fun _ => rfl, fun _ => hB g (hlt g rfl).1 (hlt g rfl).2⟩, fun j t hj => ?_⟩
    obtain ⟨vp, g1, g2⟩ := hc.2 j t hj
    have hb := lt_of_some hj
    refine ⟨vp, ?_, g2⟩
    rw [h.cellAt (0 + j) (by omega), Nat.zero_add]
    exact g1
theorem Tryz.infoPoly : (Tryz.prog.info? 26).map (fun i => (i.zero, i.size, i.bytes)) = some (some (.slice none 0 0), 1, 24) := by kernel_rfl
theorem one_cellV {u : Value} (h : u.oneCell' = true) : ∀ y ∈ (#[u] : Array Value).toList, y.oneCell' = true := by
  intro y hy
  simp at hy
  rw [hy]; exact h
section
variable {w w1 w2 : World} {o : Value} {e : TypeId} {size n : Nat} {xs : List Value}
theorem cellsL_ext {l : List (List RTerm)} (h : CellsL (NewOff w w1 o) w1 xs l) (hx : Ext w1 w2) : CellsL (NewOff w w2 o) w2 xs l :=
  h.to (Kept.ext hx (fun _ h => h.1.2)) (fun _ h => ⟨⟨h.1.1, Nat.lt_of_lt_of_le h.1.2 hx.size⟩, h.2⟩)
theorem terms_off {v : Value} {p : List RTerm} (h0 : Ext w w1) (ho : w1.ownsRow w.heap.size e size o n xs) (h : Terms (New w1 w2) w2 v p) : Terms (NewOff w w2 o) w2 v p :=
  h.to (Kept.refl _ _) (fun k hk => ⟨⟨Nat.le_trans h0.size hk.1, hk.2⟩, fun e => by
    have := (ho.lt k e.symm).2
    have := hk.1
    omega⟩)
theorem cellsL_grown {v3 : Value} {w3 : World} {l : List (List RTerm)} {B : Nat} (h : CellsL (NewOff w w2 o) w2 xs l) (hg : w2.grownBy w3 o.ownBlock) (hb : v3.ownBlock = o.ownBlock ∨ v3.ownBlock = some B) (hB : w2.heap.size ≤ B) : CellsL (NewOff w w3 v3) w3 xs l :=
  h.to (Kept.grown hg (fun _ h => ⟨h.1.2, h.2⟩)) (fun k hk => ⟨⟨hk.1.1, Nat.lt_of_lt_of_le hk.1.2 hg.size⟩, by
    rcases hb with e | e
    · rw [e]; exact hk.2
    · rw [e]
      intro e2
      have e3 : k = B := Option.some.inj e2
      have := hk.1.2
      omega⟩)
end

def okP (p : List RTerm) : Bool := decide (0 < p.length) && mayT p
/-- how polynomials are sorted: by rising ranks -/
def rankC (p q : List RTerm) : Int := orderR (rankP (plainP p)) (rankP (plainP q))
def rankL (p q : List RTerm) : Bool := decide (0 ≤ rankC q p)
def sortR (l : List (List RTerm)) : List (List RTerm) := sortL rankL (l.filter okP)

/-- a polynomial whose parts lie in a world -/
structure PolyIn (S : Nat → Prop) (w : World) where
  t : List RTerm
  c : PCell
  h : Terms S w (.slice c.a c.n c.c) t
  small : smallT t
instance (S : Nat → Prop) (w : World) : Inhabited (PolyIn S w) := ⟨⟨[], ⟨none, 0, 0⟩, Terms.nilv _ _ _ _ (by decide), fun t ht => by simp at ht⟩⟩
section
variable {S : Nat → Prop} {w : World}
theorem cells_polys {xs : List Value} {ls : List (List RTerm)} (h : CellsL S w xs ls) (hs : smallL ls) : ∃ d : List (PolyIn S w), d.map (·.t) = ls ∧ xs = d.map (fun x => .slice x.c.a x.c.n x.c.c) := by
  obtain ⟨hl, hc⟩ := h
  induction ls generalizing xs with
  | nil => exact ⟨[], rfl, by simpa using List.length_eq_zero_iff.1 hl⟩
  | cons p r ih =>
    cases xs with
    | nil => simp at hl
    | cons v ys =>
      obtain ⟨vp, h1, h2⟩ := hc 0 p rfl
      obtain rfl : v = vp := by simpa using h1
      obtain ⟨d, hd1, hd2⟩ := ih (fun q hq => hs q (by simp [hq])) (xs := ys) (by simpa using hl) (fun j q hj => hc (j + 1) q (by simpa using hj))
      obtain ⟨a, c, rfl⟩ := h2.form
      exact ⟨⟨p, ⟨a, p.length, c⟩, h2, hs p (by simp)⟩ :: d, by simp [hd1], by simp [hd2]⟩
theorem own_sortAtP {base g n cap : Nat} {e : TypeId} {xs : List Value} {d : List (PolyIn S w)} (h : w.ownsRow base e 1 (.slice (some ⟨g, 0, none⟩) n cap) n xs) (hx : xs = d.map (fun x => .slice x.c.a x.c.n x.c.c)) (hn : n = d.length) : SortAt (encP (fun x : PolyIn S w => x.c)) 1 w g 0 d w ∧ n ≤ cap ∧ cap ≤ maxLen := by
  obtain ⟨hl, hh⟩ := h
  rcases hh with ⟨h1, _⟩ | ⟨g', cap', cur, h1, h2, h3, h4, h5, h6, h7⟩
  · simp at h1
  · obtain ⟨rfl, rfl⟩ : g = g' ∧ cap = cap' := by simpa using h1
    refine ⟨⟨grown_refl _ _, ?_, (Array.getElem?_eq_some_iff.1 h3).1⟩, h4, h5⟩
    intro j hj
    rw [size_flatK, Nat.mul_one] at hj
    have hj3 : j < d.length := by simpa using hj
    obtain ⟨x, hxd⟩ := some_of_lt hj3
    rw [Nat.zero_add]
    have hjn : j < n * 1 := by omega
    have hcell : w.cell? ⟨g, j, none⟩ = xs[j]? ∧ w.frozen? ⟨g, j, none⟩ = false := by
      unfold World.cell? World.frozen?
      simp only [h3]
      rw [← h7, List.getElem?_take, if_pos hjn]
      simp
    refine ⟨?_, hcell.2⟩
    rw [hcell.1, hx, get_flatK _ _ _ _ (by rw [Nat.mul_one]; exact hj), Nat.div_one, Nat.mod_one, arr_at hxd]
    simp [hxd]
end
theorem orderR_range (a b : Int × Int) : -1 ≤ orderR a b ∧ orderR a b ≤ 1 := by
  rw [orderR_eq]
  split
  · omega
  · split <;> omega
theorem orderR_le (a b : Int × Int) : 0 ≤ orderR b a ↔ (a.1 < b.1 ∨ a.1 = b.1 ∧ a.2 ≤ b.2) := by
  rw [orderR_eq]
  unfold lessR
  simp only [decide_eq_true_eq]
  split
  · omega
  · split <;> omega
theorem rank_le : CmpLe rankC rankL := by
  refine ⟨fun x y => orderR_range _ _, fun x y => rfl, ⟨fun a b c h1 h2 => ?_, fun a b => ?_⟩⟩
  · unfold rankL rankC at *
    simp only [decide_eq_true_eq, orderR_le] at *
    omega
  · unfold rankL rankC
    simp only [decide_eq_true_eq, orderR_le]
    omega
theorem polyIn_le {S : Nat → Prop} {w : World} : CmpLe (fun x y : PolyIn S w => rankC x.t y.t) (fun x y => rankL x.t y.t) :=
  ⟨fun _x _y => rank_le.range _ _, fun _x _y => rank_le.eq _ _, ⟨fun _a _b _c h1 h2 => rank_le.total.trans _ _ _ h1 h2, fun _a _b => rank_le.total.total _ _⟩⟩
theorem map_merge {α β : Type} {le : β → β → Bool} (f : α → β) (xs ys : List α) : (mergeL (fun x y => le (f x) (f y)) xs ys).map f = mergeL le (xs.map f) (ys.map f) := by
  induction xs generalizing ys with
  | nil => rw [mergeL_nil]; exact (mergeL_nil _).symm
  | cons x xs ihx =>
    induction ys with
    | nil => rw [mergeL_right]; exact (mergeL_right _).symm
    | cons y ys ihy =>
      cases h : le (f x) (f y) with
      | true =>
        rw [mergeL_pos (le := fun x y => le (f x) (f y)) xs ys h, List.map_cons, ihx, List.map_cons, List.map_cons, mergeL_pos _ _ h]
      | false =>
        rw [mergeL_neg (le := fun x y => le (f x) (f y)) xs ys h, List.map_cons, ihy, List.map_cons, List.map_cons, mergeL_neg _ _ h]
theorem map_sort {α β : Type} {le : β → β → Bool} (f : α → β) (xs : List α) : (sortL (fun x y => le (f x) (f y)) xs).map f = sortL le (xs.map f) := by
  induction xs with
  | nil => rfl
  | cons x xs ih =>
    show (mergeL _ [x] (sortL _ xs)).map f = mergeL le [f x] (sortL le (xs.map f))
    rw [map_merge, ih]
    rfl

theorem compare_cmp {S : Nat → Prop} {w : World} {g : Nat} (hS : ∀ k, S k → k < w.heap.size ∧ k ≠ g) : CmpP 47 (fun x : PolyIn S w => x.c) (fun x y => rankC x.t y.t) w g := by
  intro W hW x y
  have hk : Kept S w W := Kept.grown hW (fun k hk => ⟨(hS k hk).1, fun e => (hS k hk).2 (Option.some.inj e)⟩)
  have hSW : ∀ k, S k → k < W.heap.size := fun k hk => Nat.lt_of_lt_of_le (hS k hk).1 hW.size
  exact rank_compare _ _ x.t y.t W (x.h.to hk (fun _ h => h)) (y.h.to hk (fun _ h => h)) hSW x.small y.small

/-- the sort of no polynomials -/
theorem sort_none_p (A : Option Addr) (c : Nat) (W : World) : Calls Tryz.prog 50 #[.slice A 0 c, .func (.func 47) #[] #[]] W fun e w' => e = .returned (.tuple #[]) ∧ W = w' := by
  have hi : ∀ W, Calls Tryz.prog 129 #[.slice A 0 c, .int .i64 0, .int .i64 0, .func (.func 47) #[] #[]] W fun e w' => e = .returned (.tuple #[]) ∧ W = w' := by
    intro W
    go_enter Tryz.func129, Tryz.ntmps129
    go_wp2
    refine wp_loop_rounds 1 ?_
    rw [rounds_succ]
    go_wp2
    go_end0
    exact ⟨rfl, rfl⟩
  have HI := hid hi
  have hs : Calls Tryz.prog 98 #[.slice A 0 c, .int .i64 0, .func (.func 47) #[] #[]] W fun e w' => e = .returned (.tuple #[]) ∧ W = w' := by
    clear hi
    go_enter Tryz.func98, Tryz.ntmps98
    go_wp2
    refine wp_loop_rounds 1 ?_
    rw [rounds_succ]
    go_wp2_with fail
    with_reducible refine (HI.out _).mono ?_
    rintro e w1 ⟨rfl, rfl⟩
    go_wp2
    refine wp_loop_rounds 1 ?_
    rw [rounds_succ]
    go_wp2
    go_end0
    exact ⟨rfl, rfl⟩
  have HS := hid hs
  clear hi hs
  go_enter Tryz.func50, Tryz.ntmps50
  go_wp2_with fail
  with_reducible refine HS.out.mono ?_
  rintro e w1 ⟨rfl, rfl⟩
  go_wp2
  go_end0
  exact ⟨rfl, rfl⟩

set_option maxRecDepth 100000 in
set_option maxHeartbeats 4000000 in
theorem rank_sort {S : Nat → Prop} (v : Value) (ls : List (List RTerm)) (w : World) (h : Polys S w v ls) (hS : ∀ k, S k → k < w.heap.size) (hr : ∀ p ∈ ls, (∀ t ∈ p, t.c.mag.length ≤ 10000000000) ∧ p.length ≤ 1000000000) (hn : ls.length ≤ 1000000000) :
    Calls Tryz.prog 11 #[v] w fun e w' => ∃ v', e = .returned v' ∧ Polys (New w w') w' v' (sortR ls) ∧ Ext w w' := by
  have H := hid h
  have HR := hid hr
  have hll := h.len_le
  obtain ⟨A, c, rfl⟩ := h.form
  obtain ⟨n, hnn⟩ : ∃ n, n = ls.length := ⟨_, rfl⟩
  rw [← hnn] at H hll ⊢
  have HN := hid hnn
  have HN2 : Hid (n ≤ 1000000000) := hid (by rw [hnn]; exact hn)
  clear h hr hnn hn
  go_enter Tryz.func11, Tryz.ntmps11
  go_wp2
  go_loopw [2, 4, 5, 6, 9] (fun o _ _ _ i wr => ∃ (k m : Nat) (xs : List Value), k ≤ n ∧ i = .int .i64 k ∧ Ext w wr ∧ Hid (m = ((ls.take k).filter okP).length) ∧ Hid (wr.ownsRow w.heap.size 26 1 o m xs) ∧ Hid (CellsL (NewOff w wr o) wr xs ((ls.take k).filter okP))) (fun _ _ _ _ i _ => n - (intOf i).toNat)
  case atStart => exact ⟨0, 0, [], Nat.zero_le _, rfl, Ext.refl _, rfl, World.ownsRow_nil _ _ _ _, CellsL.nil _ _⟩
  case round =>
    obtain ⟨k, m, xs, hk, rfl, hx, HM, HW, HY⟩ := hrel
    have HX := hid hx
    by_cases hlt : k < n
    · obtain ⟨p, hp⟩ := some_of_lt (l := ls) (j := k) (by rw [← HN.out]; exact hlt)
      obtain ⟨bl, off, vp, rfl, -, hn1, hm1, hSb, h1, h2⟩ := (H.out.ext hx hS).cellAt hp
      have HT : Hid ((ls.take (k + 1)).filter okP = (ls.take k).filter okP ++ (if okP p then [p] else [])) := hid (by
        rw [List.take_add_one, hp, List.filter_append]
        congr 1
        cases h : okP p <;> simp [h])
      have HRP := hid (HR.out p (List.mem_of_getElem? hp))
      have H2 := hid h2
      have HMK : Hid (m ≤ 1000000000) := hid (by
        rw [HM.out]
        have h3 := List.length_filter_le okP (ls.take k)
        have h4 := HN2.out
        rw [List.length_take] at h3
        omega)
      have hlp := h2.len_le
      obtain ⟨ap, cp, rfl⟩ := h2.form
      have C := poly_may (S := S) (.slice ap p.length cp) p wr h2 (lt_ext hS hx) (fun t ht => Nat.le_trans (HRP.out.1 t ht) (by decide))
      have CD := fun (hm : mayT p = true) (W : World) (hW : Ext w W) (h : Terms S W (.slice ap p.length cp) p) => poly_add (S := S) (.slice ap p.length cp) (.slice none 0 0) p [] W 10000000000 h (Terms.nilv _ _ _ _ (by decide)) (lt_ext hS hW) hm rfl HRP.out.1 (fun t ht => by simp at ht) (Nat.le_refl _) (by have := HRP.out.2; simp; omega)
      obtain ⟨np, hnp⟩ : ∃ m, m = p.length := ⟨_, rfl⟩
      rw [← hnp] at h1 hlp C CD H2
      have HNP := hid hnp
      have HC := hid C
      have HCD := hid CD
      clear h2 hp hx C CD hnp
      by_cases h0 : np = 0
      · have HF : Hid (okP p = false) := hid (by unfold okP; rw [← HNP.out, h0]; rfl)
        subst h0
        go_wp2
        go_roundw
        case rel =>
          refine ⟨k + 1, m, xs, by omega, by go_num, HX.out, ?_, HW, ?_⟩
          · show _ = _; rw [HT.out, HF.out]; simpa using HM.out
          · show CellsL _ _ _ _; rw [HT.out, HF.out]; simpa using HY.out
        case measure => simp only [intOf]; omega
      · have q0 : (0 : Int) < (np : Int) := by omega
        cases hm : mayT p with
        | false =>
          have HF : Hid (okP p = false) := hid (by unfold okP; rw [hm]; simp)
          rw [hm] at HC
          go_wp2_with fail
          with_reducible refine HC.out.mono ?_
          rintro e w2 ⟨rfl, hx2⟩
          have HX2 := hid hx2
          clear hx2
          go_wp2
          go_roundw
          case rel =>
            refine ⟨k + 1, m, xs, by omega, by go_num, HX.out.trans HX2.out, ?_, own_ext HW.out HX2.out, ?_⟩
            · show _ = _; rw [HT.out, HF.out]; simpa using HM.out
            · show CellsL _ _ _ _; rw [HT.out, HF.out]; simpa using cellsL_ext HY.out HX2.out
          case measure => simp only [intOf]; omega
        | true =>
          have HF : Hid (okP p = true) := hid (by unfold okP; rw [hm, ← HNP.out]; simp; omega)
          have HPN : Hid (ofP (normP (toP p ++ toP [])) = p) := hid (by
            rw [show toP [] = [] from rfl, List.append_nil, normP_of_can (mayT_can hm)]
            exact mayT_of H2.out.okT hm)
          rw [hm] at HC
          have HCE := hid (HCD.out hm)
          clear hm HCD
          go_wp2_with fail
          with_reducible refine HC.out.mono ?_
          rintro e w2 ⟨rfl, hx2⟩
          have HX2 := hid hx2
          clear hx2
          go_wp2_with fail
          with_reducible refine (HCE.out w2 (HX.out.trans HX2.out) (H2.out.ext HX2.out (lt_ext hS HX.out))).mono ?_
          rintro e w3 ⟨v3, rfl, hp3, hx3⟩
          have HW3 := hid (own_ext HW.out (HX2.out.trans hx3))
          have HY3 := hid (cellsL_ext HY.out (HX2.out.trans hx3))
          rw [HPN.out] at hp3
          have HP3 := hid (terms_off (HX.out.trans HX2.out) (own_ext HW.out HX2.out) hp3)
          have HX3 := hid (HX.out.trans (HX2.out.trans hx3))
          obtain ⟨a3, c3, rfl⟩ := hp3.form
          rw [← HNP.out] at HP3 ⊢
          clear hp3 hx3
          go_wp2_with (at_builtin; refine wpList_append_new _ rfl (.tmp 25) (.tmp 27) 22 rfl w.heap.size 26 (.slice none 0 0) 1 24 Tryz.underlying22 Tryz.infoPoly rfl (by decide) _ m xs rfl HW3.out #[.slice a3 np c3] rfl (one_cellV rfl) rfl HMK.out (by decide) HX3.out.size ?_; intro v4 w4 hown hg hbk; have HW4 := hid hown; have HG4 := hid hg; have HBK := hid hbk; clear hown hg hbk)
          go_roundw
          case rel =>
            refine ⟨k + 1, m + 1, xs ++ (#[.slice a3 np c3] : Array Value).toList, by omega, by go_num, own_grown0 HX3.out HW3.out HG4.out, ?_, HW4.out, ?_⟩
            · show _ = _; rw [HT.out, HF.out]; simpa using HM.out
            · show CellsL _ _ _ _
              rw [HT.out, HF.out]
              exact cellsL_grown (HY3.out.snoc HP3.out) HG4.out HBK.out (Nat.le_succ _)
          case measure => simp only [intOf]; omega
    · obtain rfl : k = n := by omega
      have hcells : CellsL (NewOff w wr u2) wr xs (ls.filter okP) := by
        have := HY.out
        rwa [List.take_of_length_le (by rw [← HN.out]; exact Nat.le_refl _)] at this
      have hm : m = (ls.filter okP).length := by
        have := HM.out
        rwa [List.take_of_length_le (by rw [← HN.out]; exact Nat.le_refl _)] at this
      have HMN : Hid (m ≤ 1000000000) := hid (by
        have h1 := List.length_filter_le okP ls
        have h2 := HN2.out
        have h3 := HN.out
        omega)
      have hsm : smallL (ls.filter okP) := fun p hp t ht => Nat.le_trans ((HR.out p (List.mem_filter.1 hp).1).1 t ht) (by decide)
      have HCE := hid hcells
      obtain ⟨d, hd1, hd2⟩ := cells_polys hcells hsm
      have hown := HW.out
      rcases hown.2 with ⟨rfl, h0⟩ | ⟨g, hg', cur, rfl, hg, hgg, hnc, hcm, hsz, hcur⟩
      · have HE : Hid (sortR ls = []) := hid (by
          unfold sortR
          rw [List.length_eq_zero_iff.1 (show (ls.filter okP).length = 0 by omega)]
          rfl)
        clear hcells hm hsm hd1 hd2 hown h0 hx
        go_wp2_with fail
        with_reducible refine (sort_none_p _ _ _).mono ?_
        rintro e w2 ⟨rfl, rfl⟩
        go_wp2
        go_ret
        exact ⟨_, rfl, by rw [HE.out]; exact Polys.nilv _ _ _ _ (by decide), HX.out⟩
      · have hmd : m = d.length := by
          have h1 := congrArg List.length hd1
          rw [List.length_map] at h1
          omega
        obtain ⟨hsa, hc1, hc2⟩ := own_sortAtP hown hd2 hmd
        have hSg : ∀ k, NewOff w wr (.slice (some ⟨g, 0, none⟩) m hg') k → k < wr.heap.size ∧ k ≠ g := fun k hk => ⟨hk.1.2, fun e => hk.2 (by rw [e]; rfl)⟩
        have C := hid (sort_p (pc := fun x : PolyIn (NewOff w wr (.slice (some ⟨g, 0, none⟩) m hg')) wr => x.c) (cf := fun x y => rankC x.t y.t) (le := fun x y => rankL x.t y.t) (cap := hg') d wr (compare_cmp hSg) polyIn_le hmd hsa hc1 (by have := HMN.out; omega))
        have HD1 := hid hd1
        have HMD := hid hmd
        have HGW : Hid (w.heap.size ≤ g) := hid hg
        have HSG := hid hSg
        unfold maxLen at hc2
        have HC2 := hid hc2
        have HC1 := hid hc1
        clear hcells hm hsm hd1 hd2 hown hmd hsa hSg hg hgg hnc hcm hsz hcur hx hc1 hc2
        go_wp2_with fail
        with_reducible refine C.out.mono ?_
        rintro e w2 ⟨rfl, hs2⟩
        have HS2 := hid hs2
        clear hs2
        go_wp2
        go_ret
        have hx2 : Ext w w2 := ext_grown HX.out HS2.out.grown (fun k hk => by
          have : g = k := Option.some.inj hk
          have := HGW.out
          omega)
        refine ⟨_, rfl, ?_, hx2⟩
        have hk2 : Kept (NewOff w wr (.slice (some ⟨g, 0, none⟩) m hg')) wr w2 := Kept.grown HS2.out.grown (fun k hk => ⟨(HSG.out k hk).1, fun e => (HSG.out k hk).2 (Option.some.inj e)⟩)
        have hsr : sortR ls = (sortL (fun x y => rankL x.t y.t) d).map (·.t) := by
          unfold sortR
          rw [← HD1.out]
          exact (map_sort (fun x : PolyIn (NewOff w wr (.slice (some ⟨g, 0, none⟩) m hg')) wr => x.t) d).symm
        rw [hsr]
        have hlen : m = ((sortL (fun x y => rankL x.t y.t) d).map (·.t)).length := by rw [List.length_map, sortL_len]; exact HMD.out
        refine ⟨g, 0, ⟨_, hg', by rw [← hlen]; rfl, by rw [← hlen]; exact HC1.out, HC2.out, fun _ => rfl, fun _ => ⟨HGW.out, Nat.lt_of_lt_of_le HS2.out.old HS2.out.grown.size⟩⟩, fun j p hj => ?_⟩
        rw [List.getElem?_map] at hj
        obtain ⟨x, hx, rfl⟩ := Option.map_eq_some_iff.1 hj
        refine ⟨_, (HS2.out.get1 hx).1, x.h.to hk2 (fun k hk => ⟨hk.1.1, Nat.lt_of_lt_of_le hk.1.2 HS2.out.grown.size⟩)⟩
end Go.Proofs.YthplgldclilccaaGreat

namespace Go.Proofs.YthplgldclilccaaGreat
open Go.RowKit

theorem clsP_take {p : PZ} {k : Nat} {t : Int × Mono} (h : p[k]? = some t) : clsP (p.take (k + 1)) = max (clsP (p.take k)) (classM t.2) := by
  rw [List.take_add_one, h]
  unfold clsP
  simp [List.foldl_append]
theorem clsP_range {p : PZ} (h : mayAll p) : 0 ≤ clsP p ∧ clsP p ≤ 200 :=
  ⟨foldl_max_le (fun t : Int × Mono => classM t.2) p 0, foldl_max_ub (fun t : Int × Mono => classM t.2) p 0 200 (by omega) (fun t ht => (class_range (h t ht)).2)⟩
theorem RTs.cell2 {w : World} {a : Option Addr} {n cap k : Nat} {p : PZ} {t : Int × Mono} (h : RTs (Old w) w (.slice a n cap) p) (ht : p[k]? = some t) :
    ∃ b off ao co, a = some ⟨b, off, none⟩ ∧ n ≤ cap ∧ cap ≤ 9223372036854775807 ∧ w.cell? ⟨b, off + k * 3 + 2, none⟩ = some (.slice ao t.2.length co) ∧ Pows (Old w) w (.slice ao t.2.length co) t.2 := by
  obtain ⟨b, off, vd, vo, rfl, -, hn1, hm1, hSb, h1, h2, h3, h4, h5⟩ := h.cellAt ht
  obtain ⟨ao, co, rfl⟩ := h5.form
  exact ⟨b, off, ao, co, rfl, hn1, hm1, h3, h5⟩

set_option maxRecDepth 100000 in
set_option maxHeartbeats 4000000 in
theorem rview_class (v : Value) (p : PZ) (w : World) (h : RTs (Old w) w v p) (hmay : mayAll p) :
    Calls Tryz.prog 25 #[v] w fun e w' => e = .returned (.int .i64 (clsP p)) ∧ Ext w w' := by
  have H := hid h
  have HM := hid hmay
  have hl := h.len_le
  obtain ⟨a, cap, rfl⟩ := h.form
  clear h hmay
  go_enter Tryz.func25, Tryz.ntmps25
  go_wp2
  go_loopw [3, 4] (fun d i wr => ∃ k : Nat, k ≤ p.length ∧ i = .int .i64 k ∧ d = .int .i64 (clsP (p.take k)) ∧ Ext w wr) (fun _ i _ => p.length - (intOf i).toNat)
  case atStart => exact ⟨0, Nat.zero_le _, rfl, rfl, Ext.refl _⟩
  case round =>
    obtain ⟨k, hk, rfl, rfl, hx⟩ := hrel
    have HX := hid hx
    obtain ⟨hd1, hd2⟩ := clsP_range (mayAll_take HM.out k)
    by_cases hlt : k < p.length
    · obtain ⟨t, ht⟩ := some_of_lt hlt
      obtain ⟨b, off, ao, co, rfl, hn1, hm1, h3, h5⟩ := H.out.cell2 ht
      have hmm := HM.out t (List.mem_of_getElem? ht)
      have HS := hid (clsP_take ht)
      obtain ⟨he1, he2⟩ := class_range hmm
      have g3 := Ext.cell hx h3
      have H5 := hid h5
      have C := fun (W : World) (hW : Ext w W) => rmono_class (S := Old w) _ t.2 W (H5.out.ext hW (fun _ h => h)) (lt_ext (fun _ h => h) hW)
      rw [plainM_yes hmm] at C
      have HC := hid C
      clear h3 h5 hx ht C hmm
      generalize clsP (p.take k) = d at *
      generalize classM t.2 = q at *
      go_wp2_with fail
      refine (HC.out wr HX.out).mono ?_
      rintro e w1 ⟨rfl, hx1⟩
      have k3 := hx1.cell g3
      have HX1 := hid (HX.out.trans hx1)
      clear hx1 g3
      by_cases hgt : d < q
      · go_wp2_with fail
        refine (HC.out w1 HX1.out).mono ?_
        rintro e w2 ⟨rfl, hx2⟩
        have HX2 := hid (HX1.out.trans hx2)
        clear hx2
        go_wp2
        go_roundw
        case rel => exact ⟨k + 1, by omega, by go_num, by rw [HS.out]; exact congrArg (Value.int .i64) (by omega), HX2.out⟩
        case measure => simp only [intOf]; omega
      · go_wp2
        go_roundw
        case rel => exact ⟨k + 1, by omega, by go_num, by rw [HS.out]; exact congrArg (Value.int .i64) (by omega), HX1.out⟩
        case measure => simp only [intOf]; omega
    · obtain rfl : k = p.length := by omega
      have HE : Hid (clsP (p.take p.length) = clsP p) := hid (by rw [List.take_length])
      clear hx
      go_wp2
      all_goals
        go_ret
        exact ⟨by rw [HE.out]; rfl, HX.out⟩

set_option maxRecDepth 100000 in
set_option maxHeartbeats 4000000 in
theorem rview_degree (v : Value) (p : PZ) (x : Int) (w : World) (h : RTs (Old w) w v p) (hmay : mayAll p) (hxb : -9223372036854775808 ≤ x ∧ x ≤ 9223372036854775807) :
    Calls Tryz.prog 23 #[v, .int .i64 x] w fun e w' => e = .returned (.int .i64 (degP p x)) ∧ Ext w w' := by
  have H := hid h
  have HM := hid hmay
  have HXB := hid hxb
  have hl := h.len_le
  obtain ⟨a, cap, rfl⟩ := h.form
  clear h hmay hxb
  go_enter Tryz.func23, Tryz.ntmps23
  go_wp2
  go_loopw [5, 6] (fun d i wr => ∃ k : Nat, k ≤ p.length ∧ i = .int .i64 k ∧ d = .int .i64 (degP (p.take k) x) ∧ Ext w wr) (fun _ i _ => p.length - (intOf i).toNat)
  case atStart => exact ⟨0, Nat.zero_le _, rfl, rfl, Ext.refl _⟩
  case round =>
    obtain ⟨k, hk, rfl, rfl, hx⟩ := hrel
    have HX := hid hx
    obtain ⟨hd1, hd2⟩ := degP_range (mayAll_take HM.out k) x
    by_cases hlt : k < p.length
    · obtain ⟨t, ht⟩ := some_of_lt hlt
      obtain ⟨b, off, ao, co, rfl, hn1, hm1, h3, h5⟩ := H.out.cell2 ht
      have hmm := HM.out t (List.mem_of_getElem? ht)
      have HS := hid (degP_take ht x)
      obtain ⟨he1, he2⟩ := ex_range hmm x
      have g3 := Ext.cell hx h3
      have H5 := hid h5
      have C := fun (W : World) (hW : Ext w W) => rmono_degree (S := Old w) _ t.2 x W (H5.out.ext hW (fun _ h => h)) (lt_ext (fun _ h => h) hW) HXB.out
      rw [plainM_yes hmm] at C
      have HC := hid C
      clear h3 h5 hx ht C hmm
      generalize degP (p.take k) x = d at *
      generalize ex t.2 x = q at *
      go_wp2_with fail
      refine (HC.out wr HX.out).mono ?_
      rintro e w1 ⟨rfl, hx1⟩
      have k3 := hx1.cell g3
      have HX1 := hid (HX.out.trans hx1)
      clear hx1 g3
      by_cases hgt : d < q
      · go_wp2_with fail
        refine (HC.out w1 HX1.out).mono ?_
        rintro e w2 ⟨rfl, hx2⟩
        have HX2 := hid (HX1.out.trans hx2)
        clear hx2
        go_wp2
        go_roundw
        case rel => exact ⟨k + 1, by omega, by go_num, by rw [HS.out]; exact congrArg (Value.int .i64) (by omega), HX2.out⟩
        case measure => simp only [intOf]; omega
      · go_wp2
        go_roundw
        case rel => exact ⟨k + 1, by omega, by go_num, by rw [HS.out]; exact congrArg (Value.int .i64) (by omega), HX1.out⟩
        case measure => simp only [intOf]; omega
    · obtain rfl : k = p.length := by omega
      have HE : Hid (degP (p.take p.length) x = degP p x) := hid (by rw [List.take_length])
      clear hx
      go_wp2
      all_goals
        go_ret
        exact ⟨by rw [HE.out]; rfl, HX.out⟩

theorem leadP_zero {p : PZ} (h : canP p) (h0 : leadP p = 0) : degP p (leadP p) = 0 := by rw [h0]; exact degP_zero h.may (by omega)

set_option maxRecDepth 100000 in
set_option maxHeartbeats 4000000 in
theorem rrank_of (v : Value) (p : PZ) (w : World) (h : RTs (Old w) w v p) (hcan : canP p) :
    Calls Tryz.prog 52 #[v] w fun e w' => e = .returned (RankV (rankP p)) ∧ Ext w w' := by
  have HK := hid (Ext.alloc (Ext.refl w) (.cells #[.int .i64 0, .int .i64 0] 68))
  have H := hid (RTs.on h HK.out)
  have HC := hid hcan
  have hcl := rview_class _ p _ H.out hcan.may
  rw [clsP_lead hcan] at hcl
  have HCL := hid hcl
  have hDeg := fun (W : World) (hW : Ext (w.alloc (.cells #[.int .i64 0, .int .i64 0] 68)) W) => rview_degree v p (leadP p) W (RTs.on H.out hW) hcan.may (by have := leadP_range hcan; omega)
  have HDEG := hid hDeg
  have HZ := hid (leadP_zero hcan)
  have er : rankP p = (leadP p, degP p (leadP p)) := rfl
  obtain ⟨hl1, hl2⟩ := leadP_range hcan
  obtain ⟨a, cap, rfl⟩ := h.form
  rw [er]
  clear h hcan hcl hDeg er
  generalize leadP p = c at *
  generalize degP p c = d at *
  go_enter Tryz.func52, Tryz.ntmps52
  go_wp2_with fail
  refine HCL.out.mono ?_
  rintro e w1 ⟨rfl, hx1⟩
  have HX1 := hid hx1
  by_cases hc : c = 0
  · subst hc
    have hd0 : d = 0 := HZ.out rfl
    subst hd0
    obtain ⟨c0, c1, f0, f1⟩ := new2 hx1
    have HE := hid (And.intro c0 c1)
    clear hx1
    go_wp2
    have hd := fun x y => two_set x y HE.out.1 HE.out.2
    refine bodyPost_ret (by simp [results, Tryz.results52, go_sem, (hd _ _).1, (hd _ _).2]; rfl) rfl ?_
    exact ⟨rfl, (HK.out.trans HX1.out).set2 (Nat.le_refl _) _ _⟩
  · have hb : (c == 0) = false := by rw [beq_eq_false_iff_ne]; exact hc
    clear hx1
    go_wp2_with fail
    refine (HDEG.out w1 HX1.out).mono ?_
    rintro e w2 ⟨rfl, hx2⟩
    obtain ⟨c0, c1, f0, f1⟩ := new2 (HX1.out.trans hx2)
    have HE := hid (And.intro c0 c1)
    have HX2 := hid (HX1.out.trans hx2)
    clear hx2
    go_wp2
    have hd := fun x y => two_set x y HE.out.1 HE.out.2
    refine bodyPost_ret (by simp [results, Tryz.results52, go_sem, (hd _ _).1, (hd _ _).2]; rfl) rfl ?_
    exact ⟨rfl, (HK.out.trans HX2.out).set2 (Nat.le_refl _) _ _⟩
end Go.Proofs.YthplgldclilccaaGreat

namespace Go.Proofs.YthplgldclilccaaGreat
open Go.RowKit

set_option maxRecDepth 100000 in
set_option maxHeartbeats 4000000 in
theorem rrank_less (a b : Int × Int) (w : World) (ha : inRank a) (hb : inRank b) :
    Calls Tryz.prog 51 #[RankV a, RankV b] w fun e w' => e = .returned (.bool (lessR a b)) ∧ Ext w w' := by
  obtain ⟨a1, a2⟩ := a
  obtain ⟨b1, b2⟩ := b
  unfold RankV
  simp only
  have HK := hid (Ext.alloc (Ext.alloc (Ext.refl w) (.cells #[.int .i64 a1, .int .i64 a2] 68)) (.cells #[.int .i64 b1, .int .i64 b2] 68))
  have ia1 : -9223372036854775808 ≤ a1 ∧ a1 ≤ 9223372036854775807 := ha.1
  have ia2 : -9223372036854775808 ≤ a2 ∧ a2 ≤ 9223372036854775807 := ha.2
  have ib1 : -9223372036854775808 ≤ b1 ∧ b1 ≤ 9223372036854775807 := hb.1
  have ib2 : -9223372036854775808 ≤ b2 ∧ b2 ≤ 9223372036854775807 := hb.2
  clear ha hb
  rcases Int.lt_trichotomy a1 b1 with h | h | h
  · have HF : Hid (lessR (a1, a2) (b1, b2) = true) := hid (decide_eq_true (.inl h))
    have hb1 : decide (a1 < b1) = true := decide_eq_true h
    go_enter Tryz.func51, Tryz.ntmps51
    go_wp2
    all_goals
      go_ret
      exact ⟨by rw [HF.out]; rfl, HK.out⟩
  · subst h
    by_cases h2 : a2 < b2
    · have HF : Hid (lessR (a1, a2) (a1, b2) = true) := hid (decide_eq_true (.inr ⟨rfl, h2⟩))
      go_enter Tryz.func51, Tryz.ntmps51
      go_wp2
      all_goals
        go_ret
        exact ⟨by rw [HF.out]; rfl, HK.out⟩
    · have HF : Hid (lessR (a1, a2) (a1, b2) = false) := hid (decide_eq_false (by
        rintro (e | ⟨e, e2⟩)
        · have e' : a1 < a1 := e
          omega
        · exact h2 e2))
      go_enter Tryz.func51, Tryz.ntmps51
      go_wp2
      all_goals
        go_ret
        exact ⟨by rw [HF.out]; rfl, HK.out⟩
  · have HF : Hid (lessR (a1, a2) (b1, b2) = false) := hid (decide_eq_false (by
      rintro (e | ⟨e, e2⟩)
      · have e' : a1 < b1 := e
        omega
      · have e' : a1 = b1 := e
        omega))
    have hb1 : (a1 == b1) = false := by rw [beq_eq_false_iff_ne]; omega
    go_enter Tryz.func51, Tryz.ntmps51
    go_wp2
    all_goals
      go_ret
      exact ⟨by rw [HF.out]; show Ending.returned (.bool (decide (a1 < b1))) = _; rw [decide_eq_false (by omega)], HK.out⟩

/-- slices of polynomials of the document -/
def RPs (S : Nat → Prop) (w : World) (v : Value) (l : List PZ) : Prop :=
  ∃ b off, SliceAt S v l.length b off ∧ ∀ j p, l[j]? = some p → ∃ vp, w.cell? ⟨b, off + j, none⟩ = some vp ∧ RTs S w vp p
section
variable {S S' : Nat → Prop} {w w' : World} {v : Value} {l : List PZ}
theorem RPs.to (h : RPs S w v l) (hk : Kept S w w') (hS : ∀ k, S k → S' k) : RPs S' w' v l := by
  obtain ⟨b, off, hs, hc⟩ := h
  refine ⟨b, off, hs.mono hS, fun j p hj => ?_⟩
  obtain ⟨vp, h1, h2⟩ := hc j p hj
  exact ⟨vp, hk.cell (hs.in (lt_of_some hj)) h1, h2.to hk hS⟩
theorem RPs.form (h : RPs S w v l) : ∃ a cap, v = .slice a l.length cap := by
  obtain ⟨b, off, ⟨a, cap, h1, _⟩, _⟩ := h
  exact ⟨a, cap, h1⟩
theorem RPs.len_le (h : RPs S w v l) : l.length ≤ 9223372036854775807 := by
  obtain ⟨b, off, ⟨a, cap, h1, h2, h3, _⟩, _⟩ := h
  unfold maxLen at h3
  omega
theorem RPs.cellAt {a : Option Addr} {n cap k : Nat} {p : PZ} (h : RPs S w (.slice a n cap) l) (ht : l[k]? = some p) :
    ∃ b off vp, a = some ⟨b, off, none⟩ ∧ n = l.length ∧ n ≤ cap ∧ cap ≤ 9223372036854775807 ∧ S b ∧ w.cell? ⟨b, off + k, none⟩ = some vp ∧ RTs S w vp p := by
  obtain ⟨b, off, ⟨a', cap', h1, h2, h3, h4, h5⟩, hc⟩ := h
  obtain ⟨rfl, rfl, rfl⟩ : a = a' ∧ n = l.length ∧ cap = cap' := by simpa using h1
  have hp : 0 < l.length := by have := lt_of_some ht; omega
  obtain ⟨vp, g1, g2⟩ := hc k p ht
  exact ⟨b, off, vp, h4 hp, rfl, h2, h3, h5 hp, g1, g2⟩
end
theorem RPs.on {w W : World} {v : Value} {l : List PZ} (h : RPs (Old w) w v l) (hx : Ext w W) : RPs (Old W) W v l := h.to (Kept.ext hx (fun _ h => h)) (old_lt hx)

end Go.Proofs.YthplgldclilccaaGreat

namespace Go.Proofs.YthplgldclilccaaGreat
open Go.RowKit

def bigTerm (t : RTerm) : Bool := decide (20 < t.c.mag.length) || decide (12 < t.m.length)
def greatT (n : Int) (ts : List RTerm) : Bool := ts.any bigTerm || decide (n < (ts.length : Int))

set_option maxRecDepth 100000 in
set_option maxHeartbeats 4000000 in
theorem rpoly_great {S : Nat → Prop} (v : Value) (ts : List RTerm) (n : Int) (w : World) (h : Terms S w v ts) (_hS : ∀ k, S k → k < w.heap.size) (hn : -9223372036854775808 ≤ n ∧ n ≤ 9223372036854775807) :
    Calls Tryz.prog 18 #[v, .int .i64 n] w fun e w' => e = .returned (.bool (greatT n ts)) ∧ Ext w w' := by
  have H := hid h
  have hl := h.len_le
  obtain ⟨hn1, hn2⟩ := hn
  obtain ⟨a, cap, rfl⟩ := h.form
  clear h
  go_enter Tryz.func18, Tryz.ntmps18
  go_wp2
  go_loopw [5] (fun i wr => ∃ k : Nat, k ≤ ts.length ∧ i = .int .i64 k ∧ Ext w wr ∧ Hid ((ts.take k).any bigTerm = false)) (fun i _ => ts.length - (intOf i).toNat)
  case atStart => exact ⟨0, Nat.zero_le _, rfl, Ext.refl _, hid rfl⟩
  case round =>
    obtain ⟨k, hk, rfl, hx, HM⟩ := hrel
    have HX := hid hx
    by_cases hlt : k < ts.length
    · obtain ⟨t, ht⟩ := some_of_lt hlt
      obtain ⟨b, off, vm, vo, rfl, -, hq1, hm1, hSb, h1, h2, h3, h4, h5⟩ := H.out.cellAt ht
      have HT : Hid (ts.take (k + 1) = ts.take k ++ [t]) := hid (by rw [List.take_add_one, ht]; rfl)
      have HQ := hid (List.mem_of_getElem? ht)
      have hl1 := h4.len_le
      have hl2 := h5.len_le
      have HBT : Hid (bigTerm t = (decide (20 < t.c.mag.length) || decide (12 < t.m.length))) := hid rfl
      have g1 := Ext.cell hx h1
      have g2 := Ext.cell hx h2
      have g3 := Ext.cell hx h3
      obtain ⟨am, cm, rfl⟩ := h4.form
      obtain ⟨ao, co, rfl⟩ := h5.form
      generalize t.c.mag.length = x at *
      generalize t.m.length = y at *
      clear hx ht h1 h2 h3 h4 h5
      by_cases hbig : 20 < x
      · have HF : Hid (greatT n ts = true) := hid (by
          unfold greatT
          rw [List.any_eq_true.2 ⟨t, HQ.out, by rw [HBT.out, decide_eq_true hbig]; rfl⟩]
          rfl)
        go_wp2
        all_goals
          go_ret
          exact ⟨by rw [HF.out]; rfl, HX.out⟩
      · by_cases hbig2 : 12 < y
        · have HF : Hid (greatT n ts = true) := hid (by
            unfold greatT
            rw [List.any_eq_true.2 ⟨t, HQ.out, by rw [HBT.out, decide_eq_true hbig2, Bool.or_true]⟩]
            rfl)
          go_wp2
          all_goals
            go_ret
            exact ⟨by rw [HF.out]; rfl, HX.out⟩
        · go_wp2
          go_roundw
          case rel => exact ⟨k + 1, by omega, by go_num, HX.out, hid (by rw [HT.out, List.any_append, HM.out]; simp [HBT.out]; omega)⟩
          case measure => simp only [intOf]; omega
    · obtain rfl : k = ts.length := by omega
      have HF : Hid (greatT n ts = decide (n < (ts.length : Int))) := hid (by
        have := HM.out
        rw [List.take_length] at this
        unfold greatT
        rw [this, Bool.false_or])
      clear hx
      go_wp2
      all_goals
        go_ret
        exact ⟨by rw [HF.out]; rfl, HX.out⟩

def greatL (ls : List (List RTerm)) : Bool := ls.any (greatT 12) || decide (8 < ls.length)

set_option maxRecDepth 100000 in
set_option maxHeartbeats 4000000 in
theorem law15_great {S : Nat → Prop} (v : Value) (ls : List (List RTerm)) (w : World) (h : Polys S w v ls) (hS : ∀ k, S k → k < w.heap.size) :
    Calls Tryz.prog 8 #[v] w fun e w' => e = .returned (.bool (greatL ls)) ∧ Ext w w' := by
  have H := hid h
  have hl := h.len_le
  obtain ⟨a, cap, rfl⟩ := h.form
  clear h
  go_enter Tryz.func8, Tryz.ntmps8
  go_wp2
  go_loopw [7] (fun i wr => ∃ k : Nat, k ≤ ls.length ∧ i = .int .i64 k ∧ Ext w wr ∧ Hid ((ls.take k).any (greatT 12) = false)) (fun i _ => ls.length - (intOf i).toNat)
  case atStart => exact ⟨0, Nat.zero_le _, rfl, Ext.refl _, hid rfl⟩
  case round =>
    obtain ⟨k, hk, rfl, hx, HM⟩ := hrel
    have HX := hid hx
    by_cases hlt : k < ls.length
    · obtain ⟨t, ht⟩ := some_of_lt hlt
      obtain ⟨b, off, vp, rfl, -, hq1, hm1, hSb, h1, h2⟩ := H.out.cellAt ht
      have HT : Hid (ls.take (k + 1) = ls.take k ++ [t]) := hid (by rw [List.take_add_one, ht]; rfl)
      have HQ := hid (List.mem_of_getElem? ht)
      have g1 := Ext.cell hx h1
      have C := rpoly_great (S := S) vp t 12 wr (h2.ext hx hS) (lt_ext hS hx) (by omega)
      obtain ⟨am, cm, rfl⟩ := h2.form
      generalize hr : greatT 12 t = r at *
      have HR := hid hr
      have HC := hid C
      clear hx ht h1 h2 C hr
      cases r with
      | true =>
        have HF : Hid (greatL ls = true) := hid (by
          unfold greatL
          rw [List.any_eq_true.2 ⟨t, HQ.out, HR.out⟩]
          rfl)
        go_wp2_with fail
        refine HC.out.mono ?_
        rintro e w1 ⟨rfl, hx1⟩
        have HX1 := hid (HX.out.trans hx1)
        clear hx1
        go_wp2
        all_goals
          go_ret
          exact ⟨by rw [HF.out]; rfl, HX1.out⟩
      | false =>
        go_wp2_with fail
        refine HC.out.mono ?_
        rintro e w1 ⟨rfl, hx1⟩
        have HX1 := hid (HX.out.trans hx1)
        clear hx1
        go_wp2
        go_roundw
        case rel => exact ⟨k + 1, by omega, by go_num, HX1.out, hid (by rw [HT.out, List.any_append, HM.out]; simp [HR.out])⟩
        case measure => simp only [intOf]; omega
    · obtain rfl : k = ls.length := by omega
      have HF : Hid (greatL ls = decide (8 < (ls.length : Int))) := hid (by
        have := HM.out
        rw [List.take_length] at this
        unfold greatL
        rw [this, Bool.false_or, decide_eq_decide]
        omega)
      clear hx
      go_wp2
      all_goals
        go_ret
        exact ⟨by rw [HF.out]; rfl, HX.out⟩

/-- what is not too great -/
theorem fit_of {ls : List (List RTerm)} (h : greatL ls = false) : ls.length ≤ 8 ∧ ∀ ts ∈ ls, ts.length ≤ 12 ∧ ∀ t ∈ ts, t.c.mag.length ≤ 20 ∧ t.m.length ≤ 12 := by
  unfold greatL at h
  rw [Bool.or_eq_false_iff] at h
  obtain ⟨h1, h2⟩ := h
  refine ⟨by simpa using h2, fun ts hts => ?_⟩
  have := (List.any_eq_false.1 h1) ts hts
  unfold greatT at this
  simp only [Bool.not_eq_true, Bool.or_eq_false_iff] at this
  obtain ⟨k1, k2⟩ := this
  refine ⟨?_, fun t ht => ?_⟩
  · rw [decide_eq_false_iff_not] at k2
    omega
  · have k3 := (List.any_eq_false.1 k1) t ht
    unfold bigTerm at k3
    simp at k3
    omega
end Go.Proofs.YthplgldclilccaaGreat

namespace Go.Proofs.YthplgldclilccaaGreat
open Go.RowKit

def CellsP (S : Nat → Prop) (w : World) (xs : List Value) (l : List PZ) : Prop := xs.length = l.length ∧ ∀ (j : Nat) (p : PZ), l[j]? = some p → ∃ vp, xs[j]? = some vp ∧ RTs S w vp p
theorem CellsP.nil (S : Nat → Prop) (w : World) : CellsP S w [] [] := ⟨rfl, fun j p h => by simp at h⟩
theorem CellsP.to {S S' : Nat → Prop} {w w' : World} {xs : List Value} {l : List PZ} (h : CellsP S w xs l) (hk : Kept S w w') (hS : ∀ k, S k → S' k) : CellsP S' w' xs l :=
  ⟨h.1, fun j p hj => by
    obtain ⟨vp, h1, h2⟩ := h.2 j p hj
    exact ⟨vp, h1, h2.to hk hS⟩⟩
theorem CellsP.snoc {S : Nat → Prop} {w : World} {xs : List Value} {l : List PZ} {v : Value} {p : PZ} (h : CellsP S w xs l) (hv : RTs S w v p) : CellsP S w (xs ++ [v]) (l ++ [p]) := by
  refine ⟨by simp [h.1], fun j q hj => ?_⟩
  by_cases hlt : j < l.length
  · rw [List.getElem?_append_left hlt] at hj
    rw [List.getElem?_append_left (by rw [h.1]; exact hlt)]
    exact h.2 j q hj
  · have hj2 := lt_of_some hj
    simp only [List.length_append, List.length_cons, List.length_nil] at hj2
    obtain rfl : j = l.length := by omega
    rw [List.getElem?_append_right (Nat.le_refl _), Nat.sub_self] at hj
    obtain rfl : p = q := by simpa using hj
    refine ⟨v, ?_, hv⟩
    rw [← h.1, List.getElem?_append_right (Nat.le_refl _), Nat.sub_self]
    rfl
theorem own_rps {S : Nat → Prop} {w : World} {base : Nat} {e : TypeId} {v : Value} {xs : List Value} {l : List PZ} (h : w.ownsRow base e 1 v l.length xs) (hc : CellsP S w xs l) (hB : ∀ k, base ≤ k → k < w.heap.size → S k) : RPs S w v l := by
  have hlt := h.lt
  rcases h.2 with ⟨rfl, h0⟩ | ⟨g, cap, cur, rfl, hg, hh, h1, h2, h3, h4⟩
  · obtain rfl : l = [] := List.length_eq_zero_iff.1 h0
    exact ⟨0, 0, ⟨none, 0, rfl, Nat.zero_le _, by decide, fun h => absurd h (Nat.lt_irrefl 0), fun h => absurd h (Nat.lt_irrefl 0)⟩, fun j t hj => by simp at hj⟩
  · refine ⟨g, 0, ⟨_, cap, rfl, h1, h2, fun _ => rfl, fun _ => hB g (hlt g rfl).1 (hlt g rfl).2⟩, fun j t hj => ?_⟩
    obtain ⟨vp, g1, g2⟩ := hc.2 j t hj
    have hb := lt_of_some hj
    refine ⟨vp, ?_, g2⟩
    rw [h.cellAt (0 + j) (by omega), Nat.zero_add]
    exact g1
theorem Tryz.infoP : (Tryz.prog.info? 36).map (fun i => (i.zero, i.size, i.bytes)) = some (some (.slice none 0 0), 1, 24) := by kernel_rfl

section
variable {S : Nat → Prop} {w w1 w2 : World} {o : Value} {e : TypeId} {size n : Nat} {xs : List Value}
theorem cellsP_ext {l : List PZ} (hS : ∀ k, S k → k < w.heap.size) (h0 : Ext w w1) (h : CellsP (Off S w w1 o) w1 xs l) (hx : Ext w1 w2) : CellsP (Off S w w2 o) w2 xs l :=
  h.to (Kept.ext hx (fun k h => plus_lt hS h0 k h.1)) (fun k h => ⟨plus_grow hx.size k h.1, h.2⟩)
/-- a polynomial that was made behind a slice -/
theorem rts_off {v : Value} {p : PZ} (hS : ∀ k, S k → k < w.heap.size) (h0 : Ext w w1) (ho : w1.ownsRow w.heap.size e size o n xs) (_hx : Ext w1 w2) (h : RTs (Plus S w1 w2) w2 v p) : RTs (Off S w w2 o) w2 v p :=
  h.to (Kept.refl _ _) (fun k hk => by
    rcases hk with hk | hk
    · refine ⟨.inl hk, fun e => ?_⟩
      have := (ho.lt k e.symm).1
      have := hS k hk
      omega
    · refine ⟨.inr ⟨Nat.le_trans h0.size hk.1, hk.2⟩, fun e => ?_⟩
      have := (ho.lt k e.symm).2
      have := hk.1
      omega)
theorem cellsP_grown {v3 : Value} {w3 : World} {l : List PZ} (hS : ∀ k, S k → k < w.heap.size) (hx : Ext w w2) (h : CellsP (Off S w w2 o) w2 xs l) (hg : w2.grownBy w3 o.ownBlock) (hb : v3.ownBlock = o.ownBlock ∨ v3.ownBlock = some (w2.heap.size + 1)) : CellsP (Off S w w3 v3) w3 xs l :=
  h.to (Kept.grown hg (fun k hk => ⟨plus_lt hS hx k hk.1, hk.2⟩)) (fun k hk => ⟨plus_grow hg.size k hk.1, off_still hS hx hk hb⟩)
end

/-- sizes that the document's numbers take -/
def fitT (ts : List RTerm) : Prop := tinyT ts ∧ ts.length ≤ 1000000
theorem szP_toP {ts : List RTerm} (hok : okT ts) (h : fitT ts) : szP (toP ts) := by
  refine ⟨by rw [toP_length]; exact Nat.le_trans h.2 (by decide), fun t ht => ?_⟩
  obtain ⟨u, hu, rfl⟩ := List.mem_map.1 ht
  exact szZ_of (hok u hu) (h.1 u hu)
theorem szP_take {p : PZ} (h : szP p) (k : Nat) : szP (p.take k) := ⟨Nat.le_trans (by rw [List.length_take]; exact Nat.min_le_right _ _) h.1, fun t ht => h.2 t (List.mem_of_mem_take ht)⟩
theorem addP_take {p : PZ} (h : canP p) (k : Nat) : addP [] (p.take k) = p.take k := normP_of_can (canP_sublist h (List.take_sublist _ _))
theorem plainP_yes {ts : List RTerm} (h : mayT ts = true) : plainP ts = toP ts := by unfold plainP; simp [h]
theorem plainP_no {ts : List RTerm} (h : mayT ts = false) : plainP ts = [] := by unfold plainP; simp [h]

set_option maxRecDepth 100000 in
set_option maxHeartbeats 8000000 in
theorem law15_plain {S : Nat → Prop} (v : Value) (ls : List (List RTerm)) (w : World) (h : Polys S w v ls) (hS : ∀ k, S k → k < w.heap.size) (hfit : ∀ ts ∈ ls, fitT ts) (hlen : ls.length ≤ 1000000) :
    Calls Tryz.prog 13 #[v] w fun e w' => ∃ v', e = .returned v' ∧ RPs (Plus S w w') w' v' (ls.map plainP) ∧ Ext w w' := by
  have H := hid h
  have HF := hid hfit
  have HL := hid hlen
  have hl := h.len_le
  obtain ⟨a, cap, rfl⟩ := h.form
  clear h hfit hlen
  go_enter Tryz.func13, Tryz.ntmps13
  go_wp2
  go_loopw [3, 7] (fun o i wr => ∃ k xs, k ≤ ls.length ∧ i = .int .i64 (k : Nat) ∧ Ext w wr ∧ Hid (wr.ownsRow w.heap.size 36 1 o k xs) ∧ Hid (CellsP (Off S w wr o) wr xs ((ls.take k).map plainP))) (fun _ i _ => ls.length - (intOf i).toNat)
  case atStart => exact ⟨0, [], Nat.zero_le _, rfl, Ext.refl _, hid (World.ownsRow_nil _ _ _ _), hid (CellsP.nil _ _)⟩
  case round =>
    obtain ⟨k, xs, hk, rfl, hx, HW, HXS⟩ := hrel
    have HX := hid hx
    by_cases hlt : k < ls.length
    · obtain ⟨t, ht⟩ := some_of_lt hlt
      obtain ⟨b, off, vp, rfl, -, hq1, hm1, hSb, h1, h2⟩ := H.out.cellAt ht
      have HT : Hid ((ls.take (k + 1)).map plainP = (ls.take k).map plainP ++ [plainP t]) := hid (by rw [List.take_add_one, ht, List.map_append]; rfl)
      have HFT := hid (HF.out t (List.mem_of_getElem? ht))
      have g1 := Ext.cell hx h1
      have C := rpoly_may (S := S) vp t wr (h2.ext hx hS) (lt_ext hS hx) HFT.out.1
      have HOK := hid h2.okT
      have H2 := hid h2
      obtain ⟨am, cm, rfl⟩ := h2.form
      generalize hr : mayT t = r at *
      have HR := hid hr
      have HC := hid C
      clear hx ht h1 h2 C hr
      cases r with
      | true =>
        have HPP := hid (plainP_yes HR.out)
        have HCAN := hid (mayT_can HR.out)
        go_wp2_with fail
        refine HC.out.mono ?_
        rintro e w1 ⟨rfl, hx1⟩
        have HX1 := hid (HX.out.trans hx1)
        have k1 := hx1.cell g1
        have HW1 := hid (own_ext HW.out hx1)
        have HXS1 := hid (cellsP_ext hS HX.out HXS.out hx1)
        have CO := hid (rpoly_of (S := S) _ t w1 (H2.out.ext HX1.out hS) (lt_ext hS HX1.out) HFT.out.1 HCAN.out.may (fun k _ => by rw [addP_take HCAN.out]; exact szP_take (szP_toP HOK.out HFT.out) k))
        clear hx1 g1
        go_wp2_with fail
        refine CO.out.mono ?_
        rintro e w2 ⟨v2, rfl, hp2, hx2⟩
        have HX2 := hid (HX1.out.trans hx2)
        have HW2 := hid (own_ext HW1.out hx2)
        have HXS2 := hid (cellsP_ext hS HX1.out HXS1.out hx2)
        have HP2 := hid (rts_off hS HX1.out HW1.out hx2 hp2)
        obtain ⟨a2, c2, rfl⟩ := hp2.form
        obtain ⟨n2, hn2⟩ : ∃ n, n = (normP (toP t)).length := ⟨_, rfl⟩
        rw [← hn2] at HP2 ⊢
        clear hx2 hp2 hn2
        go_wp2_with (at_builtin; refine wpList_append_new _ rfl (.tmp 15) (.tmp 21) 29 rfl w.heap.size 36 (.slice none 0 0) 1 24 Tryz.underlying29 Tryz.infoP rfl (by decide) _ k xs rfl HW2.out #[.slice a2 n2 c2] rfl (one_cell rfl) rfl (by have := HL.out; omega) (by decide) HX2.out.size ?_; intro v3 w3 hown hg hbk; have HW3 := hid hown; have HG3 := hid hg; have HBK := hid hbk; clear hown hg hbk)
        go_roundw
        case rel =>
          refine ⟨k + 1, xs ++ [.slice a2 n2 c2], by omega, by go_num, own_grown0 HX2.out HW2.out HG3.out, HW3, hid ?_⟩
          rw [HT.out, HPP.out, ← normP_of_can HCAN.out]
          exact cellsP_grown hS HX2.out (HXS2.out.snoc HP2.out) HG3.out HBK.out
        case measure => simp only [intOf]; omega
      | false =>
        have HPP := hid (plainP_no HR.out)
        go_wp2_with fail
        refine HC.out.mono ?_
        rintro e w1 ⟨rfl, hx1⟩
        have HX1 := hid (HX.out.trans hx1)
        have HW1 := hid (own_ext HW.out hx1)
        have HXS1 := hid (cellsP_ext hS HX.out HXS.out hx1)
        clear hx1
        go_wp2_with (at_builtin; refine wpList_append_new _ rfl (.tmp 23) (.tmp 24) 29 rfl w.heap.size 36 (.slice none 0 0) 1 24 Tryz.underlying29 Tryz.infoP rfl (by decide) _ k xs rfl HW1.out #[.slice none 0 0] rfl (one_cell rfl) rfl (by have := HL.out; omega) (by decide) HX1.out.size ?_; intro v3 w3 hown hg hbk; have HW3 := hid hown; have HG3 := hid hg; have HBK := hid hbk; clear hown hg hbk)
        go_roundw
        case rel =>
          refine ⟨k + 1, xs ++ [.slice none 0 0], by omega, by go_num, own_grown0 HX1.out HW1.out HG3.out, HW3, hid ?_⟩
          rw [HT.out, HPP.out]
          exact cellsP_grown hS HX1.out (HXS1.out.snoc (RTs.nilv _ _ _ _ (by omega))) HG3.out HBK.out
        case measure => simp only [intOf]; omega
    · obtain rfl : k = ls.length := by omega
      have HE : Hid (ls.take ls.length = ls) := hid (List.take_length)
      clear hx
      go_wp2
      go_ret
      refine ⟨_, rfl, ?_, HX.out⟩
      have hc := HXS.out
      rw [HE.out] at hc
      refine own_rps (by rw [List.length_map]; exact HW.out) (hc.to (Kept.refl _ _) (fun _ h => h.1)) (fun k h1 h2 => .inr ⟨h1, h2⟩)
theorem fit_T {ts : List RTerm} (h : ts.length ≤ 12 ∧ ∀ t ∈ ts, t.c.mag.length ≤ 20 ∧ t.m.length ≤ 12) : fitT ts ∧ smallT ts :=
  ⟨⟨fun t ht => Nat.le_trans (h.2 t ht).1 (by omega), Nat.le_trans h.1 (by omega)⟩, fun t ht => Nat.le_trans (h.2 t ht).1 (by omega)⟩
end Go.Proofs.YthplgldclilccaaGreat

namespace Go.Proofs.YthplgldclilccaaGreat
open Go.RowKit

/-- lists of ranks: the first that differs tells; else the longer one is lower -/
def lowerR : List (Int × Int) → List (Int × Int) → Int
  | [], [] => 0
  | [], _ :: _ => 1
  | _ :: _, [] => -1
  | a :: r, b :: q => if orderR a b = 0 then lowerR r q else orderR a b
def ranksL (l : List (List RTerm)) : List (Int × Int) := l.map fun p => rankP (plainP p)
def lowerL (l m : List (List RTerm)) : Int := lowerR (ranksL l) (ranksL m)
theorem lowerR_range (a b : List (Int × Int)) : -1 ≤ lowerR a b ∧ lowerR a b ≤ 1 := by
  induction a generalizing b with
  | nil => cases b <;> simp [lowerR]
  | cons x a ih =>
    cases b with
    | nil => simp [lowerR]
    | cons y b =>
      simp only [lowerR]
      split
      · exact ih b
      · exact orderR_range x y
theorem lowerL_at {l m : List (List RTerm)} {k : Nat} {p q : List RTerm} (hp : l[k]? = some p) (hq : m[k]? = some q) : lowerL (l.drop k) (m.drop k) = if rankC p q = 0 then lowerL (l.drop (k + 1)) (m.drop (k + 1)) else rankC p q := by
  rw [drop_at hp, drop_at hq]
  rfl
theorem lowerL_nil_left (m : List (List RTerm)) : lowerL [] m = cmpI m.length 0 := by
  cases m with
  | nil => rfl
  | cons q m =>
    show (1 : Int) = _
    unfold cmpI
    rw [if_neg (by omega), if_pos (by simp)]
theorem lowerL_nil_right (l : List (List RTerm)) : lowerL l [] = cmpI 0 l.length := by
  cases l with
  | nil => rfl
  | cons q m =>
    show (-1 : Int) = _
    unfold cmpI
    rw [if_pos (by simp)]
theorem cmpI_shift (a b c : Int) : cmpI (a - c) (b - c) = cmpI a b := by
  unfold cmpI
  simp only [show a - c < b - c ↔ a < b by omega, show b - c < a - c ↔ b < a by omega]

set_option maxRecDepth 100000 in
set_option maxHeartbeats 2000000 in
theorem rank_lower {S : Nat → Prop} (va vb : Value) (la lb : List (List RTerm)) (w : World) (ha : Polys S w va la) (hb : Polys S w vb lb) (hS : ∀ k, S k → k < w.heap.size) (hra : smallL la) (hrb : smallL lb) :
    Calls Tryz.prog 14 #[va, vb] w fun e w' => e = .returned (.int .i64 (lowerL la lb)) ∧ Ext w w' := by
  have HA := hid ha
  have HB := hid hb
  have HRA := hid hra
  have HRB := hid hrb
  have hla := ha.len_le
  have hlb := hb.len_le
  obtain ⟨aa, ca, rfl⟩ := ha.form
  obtain ⟨ab, cb, rfl⟩ := hb.form
  obtain ⟨na, hna⟩ : ∃ n, n = la.length := ⟨_, rfl⟩
  obtain ⟨nb, hnb⟩ : ∃ n, n = lb.length := ⟨_, rfl⟩
  rw [← hna] at HA hla ⊢
  rw [← hnb] at HB hlb ⊢
  have HNA := hid hna
  have HNB := hid hnb
  clear ha hb hra hrb hna hnb
  obtain ⟨n, hn⟩ : ∃ n, n = min na nb := ⟨_, rfl⟩
  have q0 : min (na : Int) (nb : Int) = (n : Int) := by omega
  have hna' : n ≤ na := by omega
  have hnb' : n ≤ nb := by omega
  have HMIN := hid hn
  clear hn
  go_enter Tryz.func14, Tryz.ntmps14
  go_wp2
  go_loopw [5, 6, 12] (fun _ _ i wr => ∃ k : Nat, k ≤ n ∧ i = .int .i64 k ∧ Ext w wr ∧ Hid (lowerL la lb = lowerL (la.drop k) (lb.drop k))) (fun _ _ i _ => n - (intOf i).toNat)
  case atStart => exact ⟨0, Nat.zero_le _, rfl, Ext.refl _, rfl⟩
  case round =>
    obtain ⟨k, hk, rfl, hx, HL⟩ := hrel
    have HX := hid hx
    by_cases hlt : k < n
    · obtain ⟨p, hp⟩ := some_of_lt (l := la) (j := k) (by rw [← HNA.out]; omega)
      obtain ⟨q, hq⟩ := some_of_lt (l := lb) (j := k) (by rw [← HNB.out]; omega)
      obtain ⟨b1, o1, vp, rfl, -, hn1, hm1, hS1, h1, h2⟩ := (HA.out.ext hx hS).cellAt hp
      obtain ⟨b2, o2, vq, rfl, -, hn2, hm2, hS2, h3, h4⟩ := (HB.out.ext hx hS).cellAt hq
      have HLA := hid (lowerL_at hp hq)
      have HC := hid (fun Y : Later wr => rank_compare (S := S) vp vq p q Y.w' (h2.ext Y.h (lt_ext hS hx)) (h4.ext Y.h (lt_ext hS hx)) (lt_ext hS (hx.trans Y.h)) (HRA.out p (List.mem_of_getElem? hp)) (HRB.out q (List.mem_of_getElem? hq)))
      obtain ⟨ap, cp, rfl⟩ := h2.form
      obtain ⟨aq, cq, rfl⟩ := h4.form
      obtain ⟨r1, r2⟩ := orderR_range (rankP (plainP p)) (rankP (plainP q))
      have HRC : Hid (rankC p q = orderR (rankP (plainP p)) (rankP (plainP q))) := hid rfl
      generalize orderR (rankP (plainP p)) (rankP (plainP q)) = c at *
      have L1 := fun Y : Later wr => Y.h.cell h1
      have L2 := fun Y : Later wr => Y.h.cell h3
      have q1 : (k : Int) < (na : Int) := by omega
      have q2 : (k : Int) < (nb : Int) := by omega
      clear h1 h2 h3 h4 hp hq hx
      by_cases h0 : c = 0
      · subst h0
        go_wp2
        refine wp_region_later (by kernel_rfl) (by kernel_rfl) ?_
        repeat (go_big_quiet_step (first | (go_at_call 47; exact Later.done (HC.out _))))
        refine wpQuiet_nil ?_
        intro W2 hW2
        have HW2 := hid (HX.out.trans hW2)
        clear L1 L2 hW2
        go_wp2
        go_roundw
        case rel => exact ⟨k + 1, by omega, by go_num, HW2.out, by show _ = _; rw [HL.out, HLA.out, if_pos HRC.out]⟩
        case measure => simp only [intOf]; omega
      · have h0b : (c != 0) = true := by rw [bne_iff_ne]; exact h0
        have H0 := hid h0
        clear h0
        go_wp2
        refine wp_region_later (by kernel_rfl) (by kernel_rfl) ?_
        repeat (go_big_quiet_step (first | (go_at_call 47; exact Later.done (HC.out _))))
        refine wpQuiet_nil ?_
        intro W2 hW2
        have HW2 := hid (HX.out.trans hW2)
        clear L1 L2 hW2
        go_wp2
        go_ret
        exact ⟨by rw [HL.out, HLA.out, if_neg (by rw [HRC.out]; exact H0.out), HRC.out]; rfl, HW2.out⟩
    · obtain rfl : k = n := by omega
      have HF : Hid (lowerL la lb = cmpI nb na) := hid (by
        rw [HL.out]
        have h1 := HMIN.out
        have h2 := HNA.out
        have h3 := HNB.out
        rcases (show k = na ∨ k = nb by omega) with h | h
        · rw [List.drop_of_length_le (show la.length ≤ k by omega), lowerL_nil_left, List.length_drop]
          rw [show ((lb.length - k : Nat) : Int) = (nb : Int) - (na : Int) by omega, show (0 : Int) = (na : Int) - (na : Int) by omega, cmpI_shift]
        · rw [List.drop_of_length_le (show lb.length ≤ k by omega), lowerL_nil_right, List.length_drop]
          rw [show ((la.length - k : Nat) : Int) = (na : Int) - (nb : Int) by omega, show (0 : Int) = (nb : Int) - (nb : Int) by omega, cmpI_shift])
      have C := hid (cmp_int (nb : Int) (na : Int) wr (by omega) (by omega))
      clear hx
      go_wp2_with fail
      with_reducible refine C.out.mono ?_
      rintro e w2 ⟨rfl, rfl⟩
      go_wp2
      go_ret
      exact ⟨by rw [HF.out]; rfl, HX.out⟩
end Go.Proofs.YthplgldclilccaaGreat

namespace Go.Proofs.YthplgldclilccaaGreat
open Go.RowKit

def lowerZ (a b : List PZ) : Int := lowerR (a.map rankP) (b.map rankP)
theorem lowerZ_at {l m : List PZ} {k : Nat} {p q : PZ} (hp : l[k]? = some p) (hq : m[k]? = some q) : lowerZ (l.drop k) (m.drop k) = if orderR (rankP p) (rankP q) = 0 then lowerZ (l.drop (k + 1)) (m.drop (k + 1)) else orderR (rankP p) (rankP q) := by
  rw [drop_at hp, drop_at hq]
  rfl
theorem lowerZ_nil_left (m : List PZ) : lowerZ [] m = cmpI m.length 0 := by
  cases m with
  | nil => rfl
  | cons q m =>
    show (1 : Int) = _
    unfold cmpI
    rw [if_neg (by omega), if_pos (by simp)]
theorem lowerZ_nil_right (l : List PZ) : lowerZ l [] = cmpI 0 l.length := by
  cases l with
  | nil => rfl
  | cons q m =>
    show (-1 : Int) = _
    unfold cmpI
    rw [if_pos (by simp)]
theorem lowerZ_end (a b : List PZ) (k : Nat) (h : k = min a.length b.length) : lowerZ (a.drop k) (b.drop k) = cmpI b.length a.length := by
  rcases (show k = a.length ∨ k = b.length by omega) with h1 | h1
  · rw [List.drop_of_length_le (show a.length ≤ k by omega), lowerZ_nil_left, List.length_drop]
    rw [show ((b.length - k : Nat) : Int) = (b.length : Int) - (a.length : Int) by omega, show (0 : Int) = (a.length : Int) - (a.length : Int) by omega, cmpI_shift]
  · rw [List.drop_of_length_le (show b.length ≤ k by omega), lowerZ_nil_right, List.length_drop]
    rw [show ((a.length - k : Nat) : Int) = (a.length : Int) - (b.length : Int) by omega, show (0 : Int) = (b.length : Int) - (b.length : Int) by omega, cmpI_shift]

set_option maxRecDepth 100000 in
set_option maxHeartbeats 4000000 in
theorem rref_lower (va vb : Value) (la lb : List PZ) (w : World) (ha : RPs (Old w) w va la) (hb : RPs (Old w) w vb lb) (hca : ∀ p ∈ la, canP p) (hcb : ∀ p ∈ lb, canP p) :
    Calls Tryz.prog 15 #[va, vb] w fun e w' => e = .returned (.int .i64 (lowerZ la lb)) ∧ Ext w w' := by
  have HA := hid ha
  have HB := hid hb
  have HCA := hid hca
  have HCB := hid hcb
  have hla := ha.len_le
  have hlb := hb.len_le
  obtain ⟨aa, ca, rfl⟩ := ha.form
  obtain ⟨ab, cb, rfl⟩ := hb.form
  obtain ⟨na, hna⟩ : ∃ n, n = la.length := ⟨_, rfl⟩
  obtain ⟨nb, hnb⟩ : ∃ n, n = lb.length := ⟨_, rfl⟩
  rw [← hna] at HA hla ⊢
  rw [← hnb] at HB hlb ⊢
  have HNA := hid hna
  have HNB := hid hnb
  clear ha hb hca hcb hna hnb
  go_enter Tryz.func15, Tryz.ntmps15
  go_wp2
  go_loopw [5] (fun i wr => ∃ k : Nat, k ≤ na ∧ k ≤ nb ∧ i = .int .i64 k ∧ Ext w wr ∧ Hid (lowerZ la lb = lowerZ (la.drop k) (lb.drop k))) (fun i _ => na - (intOf i).toNat)
  case atStart => exact ⟨0, Nat.zero_le _, Nat.zero_le _, rfl, Ext.refl _, rfl⟩
  case round =>
    obtain ⟨k, hk, hk2, rfl, hx, HL⟩ := hrel
    have HX := hid hx
    by_cases hlt : k < na ∧ k < nb
    · obtain ⟨hlt1, hlt2⟩ := hlt
      obtain ⟨p, hp⟩ := some_of_lt (l := la) (j := k) (by rw [← HNA.out]; omega)
      obtain ⟨q, hq⟩ := some_of_lt (l := lb) (j := k) (by rw [← HNB.out]; omega)
      obtain ⟨b1, o1, vp, rfl, -, hn1, hm1, -, h1, h2⟩ := (HA.out.on hx).cellAt hp
      obtain ⟨b2, o2, vq, rfl, -, hn2, hm2, -, h3, h4⟩ := (HB.out.on hx).cellAt hq
      have hcp := HCA.out p (List.mem_of_getElem? hp)
      have hcq := HCB.out q (List.mem_of_getElem? hq)
      have HLA := hid (lowerZ_at hp hq)
      have C1 := fun (W : World) (hW : Ext wr W) => rrank_of vp p W (h2.on hW) hcp
      have C2 := fun (W : World) (hW : Ext wr W) => rrank_of vq q W (h4.on hW) hcq
      have C3 := fun W => rrank_less (rankP p) (rankP q) W (rankP_in hcp) (rankP_in hcq)
      have C4 := fun W => rrank_less (rankP q) (rankP p) W (rankP_in hcq) (rankP_in hcp)
      have HOR := hid (orderR_eq (rankP p) (rankP q))
      unfold RankV at C1 C2 C3 C4
      generalize rankP p = ra at *
      generalize rankP q = rb at *
      obtain ⟨ra1, ra2⟩ := ra
      obtain ⟨rb1, rb2⟩ := rb
      simp only at C1 C2 C3 C4
      have HC1 := hid C1
      have HC2 := hid C2
      obtain ⟨ap, cp, rfl⟩ := h2.form
      obtain ⟨aq, cq, rfl⟩ := h4.form
      have L1 := fun Y : Later wr => Y.h.cell h1
      have L2 := fun Y : Later wr => Y.h.cell h3
      have HK := hid (And.intro h1 h3)
      have q1 : (k : Int) < (na : Int) := by omega
      have q2 : (k : Int) < (nb : Int) := by omega
      have HT2 := hid (And.intro h2 h4)
      clear hp hq hx hcp hcq C1 C2 h1 h3 h2 h4
      cases hs : lessR (ra1, ra2) (rb1, rb2) with
      | true =>
        simp only [hs] at C3
        have HC3 := hid C3
        have HO : Hid (orderR (ra1, ra2) (rb1, rb2) = -1) := hid (by rw [HOR.out, hs]; rfl)
        clear C3 C4 hs
        go_wp2
        refine wp_region_later (by kernel_rfl) (by kernel_rfl) ?_
        repeat (go_big_quiet_step (first | (go_at_call_of 52 (Value.slice ap p.length cp); exact Later.done (HC1.out _ (Later.h _))) | (go_at_call 52; exact Later.done (HC2.out _ (Later.h _))) | (go_at_call 51; exact Later.done (HC3.out _))))
        refine wpQuiet_nil ?_
        intro W2 hW2
        have HW2 := hid (HX.out.trans hW2)
        clear L1 L2 hW2
        go_wp2
        go_ret
        exact ⟨by rw [HL.out, HLA.out, HO.out]; rfl, HW2.out⟩
      | false =>
        simp only [hs] at C3
        have HC3 := hid C3
        have HS := hid hs
        clear C3 hs
        go_wp2
        refine wp_region_later (by kernel_rfl) (by kernel_rfl) ?_
        repeat (go_big_quiet_step (first | (go_at_call_of 52 (Value.slice ap p.length cp); exact Later.done (HC1.out _ (Later.h _))) | (go_at_call 52; exact Later.done (HC2.out _ (Later.h _))) | (go_at_call 51; exact Later.done (HC3.out _))))
        refine wpQuiet_nil ?_
        intro W2 hW2
        have HW2 := hid (HX.out.trans hW2)
        have M1 := fun Y : Later W2 => (hW2.trans Y.h).cell HK.out.1
        have M2 := fun Y : Later W2 => (hW2.trans Y.h).cell HK.out.2
        have HD1 := hid (fun (W : World) (hW : Ext W2 W) => HC1.out W (hW2.trans hW))
        have HD2 := hid (fun (W : World) (hW : Ext W2 W) => HC2.out W (hW2.trans hW))
        clear L1 L2 HC1 HC2 hW2
        cases ht : lessR (rb1, rb2) (ra1, ra2) with
        | true =>
          simp only [ht] at C4
          have HC4 := hid C4
          have HO : Hid (orderR (ra1, ra2) (rb1, rb2) = 1) := hid (by rw [HOR.out, HS.out, ht]; rfl)
          clear C4 ht
          go_wp2
          refine wp_region_later (by kernel_rfl) (by kernel_rfl) ?_
          repeat (go_big_quiet_step (first | (go_at_call_of 52 (Value.slice ap p.length cp); exact Later.done (HD1.out _ (Later.h _))) | (go_at_call 52; exact Later.done (HD2.out _ (Later.h _))) | (go_at_call 51; exact Later.done (HC4.out _))))
          refine wpQuiet_nil ?_
          intro W3 hW3
          have HW3 := hid (HW2.out.trans hW3)
          clear M1 M2 hW3
          go_wp2
          go_ret
          exact ⟨by rw [HL.out, HLA.out, HO.out]; rfl, HW3.out⟩
        | false =>
          simp only [ht] at C4
          have HC4 := hid C4
          have HO : Hid (orderR (ra1, ra2) (rb1, rb2) = 0) := hid (by rw [HOR.out, HS.out, ht]; rfl)
          clear C4 ht
          go_wp2
          refine wp_region_later (by kernel_rfl) (by kernel_rfl) ?_
          repeat (go_big_quiet_step (first | (go_at_call_of 52 (Value.slice ap p.length cp); exact Later.done (HD1.out _ (Later.h _))) | (go_at_call 52; exact Later.done (HD2.out _ (Later.h _))) | (go_at_call 51; exact Later.done (HC4.out _))))
          refine wpQuiet_nil ?_
          intro W3 hW3
          have HW3 := hid (HW2.out.trans hW3)
          clear M1 M2 hW3
          go_wp2
          go_roundw
          case rel => exact ⟨k + 1, by omega, by omega, by go_num, HW3.out, by show _ = _; rw [HL.out, HLA.out, if_pos HO.out]⟩
          case measure => simp only [intOf]; omega
    · have HF : Hid (lowerZ la lb = cmpI nb na) := hid (by
        rw [HL.out, lowerZ_end _ _ _ (by have h1 := HNA.out; have h2 := HNB.out; omega), HNA.out, HNB.out])
      rcases (show (k < na ∧ k = nb) ∨ (k = na ∧ k < nb) ∨ (k = na ∧ k = nb) by omega) with ⟨hl1, rfl⟩ | ⟨rfl, hl2⟩ | ⟨rfl, rfl⟩
      all_goals
        clear hx hlt
        go_wp2
        all_goals
          go_ret
          refine ⟨?_, HX.out⟩
          rw [HF.out]
          unfold cmpI
          first | (rw [if_pos (by omega)]; rfl) | (rw [if_neg (by omega), if_pos (by omega)]; rfl) | (rw [if_neg (by omega), if_neg (by omega)]; rfl)
end Go.Proofs.YthplgldclilccaaGreat

namespace Go.Proofs.YthplgldclilccaaGreat
open Go.RowKit

def fullZ (p : PZ) : Bool := decide (0 < p.length)
def rankLZ (p q : PZ) : Bool := decide (0 ≤ orderR (rankP q) (rankP p))
def sortZ (l : List PZ) : List PZ := sortL rankLZ (l.filter fullZ)
theorem rankLZ_total : TotalLe rankLZ := by
  refine ⟨fun a b c h1 h2 => ?_, fun a b => ?_⟩
  · unfold rankLZ at *
    simp only [decide_eq_true_eq, orderR_le] at *
    omega
  · unfold rankLZ
    simp only [decide_eq_true_eq, orderR_le]
    omega
theorem rankLZ_less (p z : PZ) : rankLZ z p = !lessR (rankP p) (rankP z) := by
  unfold rankLZ
  rw [orderR_eq]
  cases h : lessR (rankP p) (rankP z) with
  | true => simp
  | false =>
    simp only [Bool.false_eq_true, if_false, Bool.not_false, decide_eq_true_eq]
    split <;> omega
theorem sortZ_skip {ls : List PZ} {k : Nat} {p : PZ} (hp : ls[k]? = some p) (h : fullZ p = false) : sortZ (ls.take (k + 1)) = sortZ (ls.take k) := by
  unfold sortZ
  rw [List.take_add_one, hp, List.filter_append]
  simp [h]
theorem sortZ_put {ls L : List PZ} {k j : Nat} {p : PZ} (hp : ls[k]? = some p) (h : fullZ p = true) (hL : L = sortZ (ls.take k)) (h1 : ∀ z ∈ L.take j, rankLZ z p = true) (h2 : ∀ z ∈ L.drop j, rankLZ z p = false) :
    sortZ (ls.take (k + 1)) = L.take j ++ p :: L.drop j := by
  rw [← mergeL_put h1 h2, List.take_append_drop, hL]
  unfold sortZ
  rw [List.take_add_one, hp, List.filter_append, sortL_append rankLZ_total]
  simp [h, sortL_one]
theorem sortZ_mem {ls : List PZ} {p : PZ} (h : p ∈ sortZ ls) : p ∈ ls := by
  unfold sortZ at h
  exact (List.mem_filter.1 ((sortL_perm _).mem_iff.1 h)).1
theorem sortZ_len (ls : List PZ) : (sortZ ls).length ≤ ls.length := by
  unfold sortZ
  rw [sortL_len]
  exact List.length_filter_le _ _
/-- all ahead of a place that is not above -/
theorem sorted_ahead {L : List PZ} {j : Nat} {p q : PZ} (hs : SortedL rankLZ L) (hq : L[j]? = some q) (h : rankLZ q p = true) : ∀ z ∈ L.take (j + 1), rankLZ z p = true := by
  have e : L.take (j + 1) = L.take j ++ [q] := by rw [List.take_add_one, hq]; rfl
  rw [e]
  have h3 : SortedL rankLZ (L.take (j + 1)) := List.Pairwise.sublist (List.take_sublist _ _) hs
  rw [e] at h3
  exact h3.last rankLZ_total h
theorem drop_less {L : List PZ} {j : Nat} {p q : PZ} (hq : L[j]? = some q) (h : rankLZ q p = false) (h2 : ∀ z ∈ L.drop (j + 1), rankLZ z p = false) : ∀ z ∈ L.drop j, rankLZ z p = false := by
  rw [drop_at hq]
  intro z hz
  rcases List.mem_cons.1 hz with rfl | hz
  · exact h
  · exact h2 z hz

theorem RPs.nilv (S : Nat → Prop) (w : World) (a : Option Addr) (cap : Nat) (h : cap ≤ 9223372036854775807) : RPs S w (.slice a 0 cap) [] :=
  ⟨0, 0, ⟨a, cap, rfl, Nat.zero_le _, h, fun h => absurd h (Nat.lt_irrefl 0), fun h => absurd h (Nat.lt_irrefl 0)⟩, fun j t hj => by simp at hj⟩
theorem RPs.caps {S : Nat → Prop} {w : World} {a : Option Addr} {n cap : Nat} {l : List PZ} (h : RPs S w (.slice a n cap) l) : n = l.length ∧ n ≤ cap ∧ cap ≤ 9223372036854775807 := by
  obtain ⟨b, off, ⟨a', cap', h1, h2, h3, _⟩, _⟩ := h
  obtain ⟨rfl, rfl, rfl⟩ : a = a' ∧ n = l.length ∧ cap = cap' := by simpa using h1
  unfold maxLen at h3
  exact ⟨rfl, h2, by omega⟩
theorem cellsP_from {S : Nat → Prop} {w : World} {b : Nat} : ∀ (l : List PZ) (off : Nat), (∀ j p, l[j]? = some p → ∃ vp, w.cell? ⟨b, off + j, none⟩ = some vp ∧ RTs S w vp p) →
    ∃ xs, CellsP S w xs l ∧ (∀ u ∈ xs, u.oneCell' = true) ∧ ∀ j u, xs[j]? = some u → w.cell? ⟨b, off + j, none⟩ = some u
  | [], _, _ => ⟨[], CellsP.nil _ _, fun u hu => by simp at hu, fun j u hj => by simp at hj⟩
  | p :: l, off, h => by
    obtain ⟨vp, h1, h2⟩ := h 0 p rfl
    obtain ⟨xs, k1, k2, k3⟩ := cellsP_from l (off + 1) (fun j q hj => by
      have := h (j + 1) q (by simpa using hj)
      rwa [show off + (j + 1) = off + 1 + j by omega] at this)
    refine ⟨vp :: xs, ⟨by simp [k1.1], fun j q hj => ?_⟩, fun u hu => ?_, fun j u hj => ?_⟩
    · cases j with
      | zero => obtain rfl : p = q := by simpa using hj
                exact ⟨vp, rfl, h2⟩
      | succ j => exact k1.2 j q (by simpa using hj)
    · rcases List.mem_cons.1 hu with rfl | hu
      · obtain ⟨a, c, rfl⟩ := h2.form
        rfl
      · exact k2 u hu
    · cases j with
      | zero => obtain rfl : vp = u := by simpa using hj
                exact h1
      | succ j =>
        have := k3 j u (by simpa using hj)
        rwa [show off + 1 + j = off + (j + 1) by omega] at this
/-- what is appended from the first ones -/
theorem RPs.src_take {S : Nat → Prop} {w : World} {A : Option Addr} {n cap k : Nat} {l : List PZ} (h : RPs S w (.slice A n cap) l) (hk : k ≤ l.length) :
    ∃ xs, SrcAt w A k 1 xs ∧ CellsP S w xs (l.take k) := by
  obtain ⟨b, off, ⟨a', cap', h1, h2, h3, h4, h5⟩, hc⟩ := h
  obtain ⟨rfl, rfl, rfl⟩ : A = a' ∧ n = l.length ∧ cap = cap' := by simpa using h1
  obtain ⟨xs, k1, k2, k3⟩ := cellsP_from (S := S) (w := w) (b := b) (l.take k) off (fun j p hj => by
    rw [List.getElem?_take] at hj
    split at hj
    · exact hc j p hj
    · cases hj)
  refine ⟨xs, ⟨by rw [k1.1, List.length_take]; omega, k2, fun h0 => ⟨_, h4 (by omega), fun j u hj => ?_⟩⟩, k1⟩
  rw [add_off]
  exact k3 j u hj
/-- and from the others -/
theorem RPs.src_drop {S : Nat → Prop} {w : World} {A A' : Option Addr} {n cap k : Nat} {l : List PZ} (h : RPs S w (.slice A n cap) l) (hk : k ≤ l.length) (e : A' = (if cap = k then A else A.map (·.add (k * 1)))) :
    ∃ xs, (∀ W, Ext w W → SrcAt W A' (l.length - k) 1 xs) ∧ CellsP S w xs (l.drop k) := by
  obtain ⟨b, off, ⟨a', cap', h1, h2, h3, h4, h5⟩, hc⟩ := h
  obtain ⟨rfl, rfl, rfl⟩ : A = a' ∧ n = l.length ∧ cap = cap' := by simpa using h1
  by_cases hlt : k < l.length
  · have ha := h4 (by omega)
    subst ha
    rw [if_neg (by omega)] at e
    have e2 : A' = some ⟨b, off + k, none⟩ := by rw [e, Option.map_some, add_off, Nat.mul_one]
    obtain ⟨xs, k1, k2, k3⟩ := cellsP_from (S := S) (w := w) (b := b) (l.drop k) (off + k) (fun j p hj => by
      rw [List.getElem?_drop] at hj
      rw [show off + k + j = off + (k + j) by omega]
      exact hc (k + j) p hj)
    refine ⟨xs, fun W hW => ⟨by rw [k1.1, List.length_drop, Nat.mul_one], k2, fun h0 => ⟨_, e2, fun j u hj => ?_⟩⟩, k1⟩
    rw [add_off]
    exact hW.cell (k3 j u hj)
  · obtain rfl : k = l.length := by omega
    refine ⟨[], fun W hW => ⟨by simp, fun u hu => by simp at hu, fun hh => by omega⟩, ?_⟩
    rw [List.drop_length]
    exact CellsP.nil _ _
theorem CellsP.append {S : Nat → Prop} {w : World} {xs ys : List Value} {l m : List PZ} (h : CellsP S w xs l) (h' : CellsP S w ys m) : CellsP S w (xs ++ ys) (l ++ m) := by
  refine ⟨by simp [h.1, h'.1], fun j q hj => ?_⟩
  by_cases hlt : j < l.length
  · rw [List.getElem?_append_left hlt] at hj
    rw [List.getElem?_append_left (by rw [h.1]; exact hlt)]
    exact h.2 j q hj
  · rw [List.getElem?_append_right (by omega)] at hj
    rw [List.getElem?_append_right (by rw [h.1]; omega), h.1]
    exact h'.2 _ q hj
/-- a slice up to an index -/
theorem wpList_slice_to {P : Program} (w : World) {ops : Array Oper} {rest : List Oper} {o : Oper} {a : Act} {Q : Exit → Act → World → Prop} (hgd : o.guard = none) (x y : Operand) (t e : TypeId)
    (ho : o.op = .slice t x none (some y) none) (ht : P.underlying t = some (.slice e)) {z : Option Value} {size bytes : Nat} (hinfo : (P.info? e).map (fun i => (i.zero, i.size, i.bytes)) = some (z, size, bytes))
    (A : Option Addr) (n cap k : Nat) (hx : a.eval x = .slice A n cap) (hy : a.eval y = .int .i64 (k : Nat)) (hk : k ≤ cap)
    (h : wpList P ops Q rest (a.put o.dst (.slice A k cap)) w) : wpList P ops Q (o :: rest) a w := by
  refine wpList_plain hgd fun K hK => ?_
  have he : P.elem t = e := by simp [Program.elem, ht]
  have ht' : P.underlying t = some (.slice (P.elem t)) := by rw [he]; exact ht
  have hi : ∃ i, P.info? e = some i ∧ i.size = size := by
    cases hh : P.info? e with
    | none => rw [hh] at hinfo; simp at hinfo
    | some i =>
      rw [hh] at hinfo
      simp at hinfo
      exact ⟨i, rfl, hinfo.2.1⟩
  obtain ⟨i, hi1, hi2⟩ := hi
  have hA : ∀ s, (if cap = 0 then A else A.map (·.add (0 * s))) = A := by
    intro s
    split
    · rfl
    · cases A with
      | none => rfl
      | some ad => simp [Addr.add]
  unfold Oper.wp execOp
  simp only [ho, Option.map, hx, hy]
  rw [Sem.run_bind, run_sliceAt_slice _ _ _ _ _ _ ht', run_slice_h (ht := ht') (h0 := by omega) (h2 := by omega)]
  simp only [he, sizeOf, typeInfo, Sem.run_bind, sliced, Int.toNat_natCast, hA]
  have := hK _ _ h
  simpa [go_sem, hi1, hi2] using this
end Go.Proofs.YthplgldclilccaaGreat

namespace Go.Proofs.YthplgldclilccaaGreat

theorem full_plainP (p : List RTerm) : fullZ (plainP p) = okP p := by
  unfold fullZ okP plainP
  by_cases hm : mayT p = true
  · rw [if_pos hm, hm]
    unfold toP
    rw [List.length_map]
    simp
  · rw [if_neg hm]
    simp [hm]
theorem sorts_plain (ls : List (List RTerm)) : sortZ (ls.map plainP) = (sortR ls).map plainP := by
  unfold sortZ sortR
  have h1 : (ls.map plainP).filter fullZ = (ls.filter okP).map plainP := by
    rw [List.filter_map]
    congr 1
    refine List.filter_congr (fun p _ => ?_)
    exact full_plainP p
  rw [h1]
  exact (map_sort (le := rankLZ) plainP (ls.filter okP)).symm
theorem sorts_at {ls : List (List RTerm)} (hok : ∀ p ∈ ls, okT p) {k : Nat} {p : List RTerm} (h : (sortR ls)[k]? = some p) : ∃ q, (sortZ (ls.map plainP))[k]? = some q ∧ ofP q = p ∧ canP q ∧ q = plainP p ∧ p ∈ ls := by
  have hm := (sortL_perm _).mem_iff.1 (List.mem_of_getElem? h)
  have h1 := List.mem_filter.1 hm
  have h2 : mayT p = true := by
    have := h1.2
    unfold okP at this
    simp only [Bool.and_eq_true] at this
    exact this.2
  refine ⟨plainP p, ?_, ?_, plainP_can p, rfl, h1.1⟩
  · rw [sorts_plain, List.getElem?_map, h]
    rfl
  · unfold plainP
    rw [if_pos h2]
    exact mayT_of (hok p h1.1) h2
theorem sorts_len (ls : List (List RTerm)) : (sortZ (ls.map plainP)).length = (sortR ls).length := by
  rw [sorts_plain, List.length_map]
theorem lowers_plain (l m : List (List RTerm)) : lowerZ (l.map plainP) (m.map plainP) = lowerL l m := by
  unfold lowerZ lowerL ranksL
  rw [List.map_map, List.map_map]
  rfl
end Go.Proofs.YthplgldclilccaaGreat

namespace Go.Proofs.YthplgldclilccaaGreat
open Go.RowKit

set_option maxRecDepth 100000 in
set_option maxHeartbeats 8000000 in
theorem rref_sort (v : Value) (ls : List PZ) (w : World) (h : RPs (Old w) w v ls) (hc : ∀ p ∈ ls, canP p) (hn : ls.length ≤ 1000000) :
    Calls Tryz.prog 12 #[v] w fun e w' => ∃ v', e = .returned v' ∧ RPs (Old w') w' v' (sortZ ls) ∧ Ext w w' := by
  have H := hid h
  have HC := hid hc
  have hll := h.len_le
  obtain ⟨a, cap, rfl⟩ := h.form
  obtain ⟨n, hnn⟩ : ∃ n, n = ls.length := ⟨_, rfl⟩
  rw [← hnn] at H hll ⊢
  have HN := hid hnn
  have HN2 : Hid (n ≤ 1000000) := hid (by rw [hnn]; exact hn)
  clear h hc hn hnn
  obtain ⟨i0, hi, hz0, hz1, hz2⟩ := info_parts Tryz.infoP
  go_enter Tryz.func12, Tryz.ntmps12
  go_wp2
  go_loopw [3, 4, 5, 6] (fun o i _ _ wr => ∃ k : Nat, k ≤ n ∧ i = .int .i64 k ∧ Ext w wr ∧ Hid (RPs (Old wr) wr o (sortZ (ls.take k)))) (fun _ i _ _ _ => n - (intOf i).toNat)
  case atStart => exact ⟨0, Nat.zero_le _, rfl, Ext.refl _, hid (RPs.nilv _ _ _ _ (by decide))⟩
  case round =>
    obtain ⟨k, hk, rfl, hx, HO⟩ := hrel
    have HX := hid hx
    obtain ⟨L, hL⟩ : ∃ L, L = sortZ (ls.take k) := ⟨_, rfl⟩
    rw [← hL] at HO
    have HL := hid hL
    have HML : Hid (L.length ≤ 1000000) := hid (by
      rw [hL]
      have h1 := sortZ_len (ls.take k)
      have h2 := HN2.out
      rw [List.length_take] at h1
      omega)
    have HSR : Hid (SortedL rankLZ L) := hid (by rw [hL]; exact sortL_sorted rankLZ_total _)
    have HCL : Hid (∀ q ∈ L, canP q) := hid (fun q hq => by rw [hL] at hq; exact HC.out q (List.mem_of_mem_take (sortZ_mem hq)))
    have hlm := HO.out.len_le
    obtain ⟨ao, co, rfl⟩ := HO.out.form
    obtain ⟨m, hm⟩ : ∃ m, m = L.length := ⟨_, rfl⟩
    rw [← hm] at HO hlm ⊢
    have HM := hid hm
    have hcap := HO.out.caps
    obtain ⟨-, hc1, hc2⟩ := hcap
    clear hL hm
    by_cases hlt : k < n
    · obtain ⟨p, hp⟩ := some_of_lt (l := ls) (j := k) (by rw [← HN.out]; exact hlt)
      have HCP := hid (HC.out p (List.mem_of_getElem? hp))
      have HP := hid hp
      obtain ⟨bl, off, vp, rfl, -, hn1, hm1, -, h1, h2⟩ := (H.out.on hx).cellAt hp
      have H1 := hid h1
      have H2 := hid h2
      have hlp := h2.len_le
      obtain ⟨ap, cp, rfl⟩ := h2.form
      obtain ⟨np, hnp⟩ : ∃ m, m = p.length := ⟨_, rfl⟩
      rw [← hnp] at h1 hlp H1 H2
      have HNP := hid hnp
      clear h2 hp hx hnp
      by_cases h0 : np = 0
      · have HF : Hid (fullZ p = false) := hid (by unfold fullZ; rw [← HNP.out, h0]; rfl)
        subst h0
        go_wp2
        go_roundw
        case rel => exact ⟨k + 1, by omega, by go_num, HX.out, hid (by rw [sortZ_skip HP.out HF.out, ← HL.out, HM.out]; have := HO.out; rw [HM.out] at this; exact this)⟩
        case measure => simp only [intOf]; omega
      · have HF : Hid (fullZ p = true) := hid (by unfold fullZ; rw [← HNP.out]; simp; omega)
        have hb : ((np : Int) == 0) = false := by simp; omega
        go_wp2
        go_loopw [5] (fun vk wy => ∃ j : Nat, vk = .int .i64 j ∧ j ≤ m ∧ Ext wr wy ∧ Hid (∀ z ∈ L.drop j, rankLZ z p = false)) (fun vk _ => (intOf vk).toNat)
        case atStart => exact ⟨m, rfl, Nat.le_refl _, Ext.refl _, hid (by rw [HM.out, List.drop_length]; intro z hz; simp at hz)⟩
        case round =>
          obtain ⟨j, rfl, hj, hy, HD⟩ := hrel
          have HY := hid hy
          have HYP := hid (HX.out.trans hy)
          rcases (show j = 0 ∨ ∃ j1, j = j1 + 1 by cases j; exact .inl rfl; exact .inr ⟨_, rfl⟩) with rfl | ⟨j1, rfl⟩
          · have hb0 : decide (((0 : Nat) : Int) > 0) = false := by decide
            clear hy h1
            go_wp2
            refine wp_region_later (by kernel_rfl) (by kernel_rfl) ?_
            repeat (go_big_quiet_step (fail))
            refine wpQuiet_nil ?_
            intro W2 hW2
            have HYW := hid (HY.out.trans hW2)
            have HXW := hid (HYP.out.trans hW2)
            have HOW := hid (HO.out.on HYW.out)
            have HPW := hid (H2.out.on HYW.out)
            have g1 := HYW.out.cell H1.out
            clear hW2
            obtain ⟨xs1, hs1, hc1'⟩ := HOW.out.src_take (k := 0) (by have := HM.out; omega)
            have HS1 := hid hs1
            have HC1' := hid hc1'
            have HEQ := hid (sortZ_put (j := 0) HP.out HF.out HL.out (by intro z hz; simp at hz) HD.out)
            have HJM : Hid (0 ≤ m) := hid hj
            have HJC : Hid (0 ≤ co) := hid (Nat.le_trans hj hc1)
            clear hs1 hc1'
            go_wp2_with (first | (refine wpList_slice_to _ rfl (.tmp 40) (.tmp 41) 29 36 rfl Tryz.underlying29 Tryz.infoP ao m co (0) rfl rfl HJC.out ?_) | (at_builtin; refine wpList_append_src _ rfl (.tmp 39) (.tmp 42) 29 rfl W2.heap.size 36 i0 (.slice none 0 0) 1 24 Tryz.underlying29 hi hz0 hz1 hz2 rfl (by decide) (.slice none 0 0) 0 [] rfl (World.ownsRow_nil _ _ _ _) ao (0) co xs1 rfl HS1.out (by have := HML.out; have := HM.out; unfold maxLen; omega) (by have := HML.out; have := HM.out; omega) (Nat.le_refl _) ?_; intro v1 w1 hown hg _; have HW1 := hid hown; have HX1 := hid (own_grown0 (e := 36) (size := 1) (Ext.refl W2) (World.ownsRow_nil _ _ _ _) hg); have k1 := HX1.out.cell g1; clear hown hg) | (at_builtin; refine wpList_append_new _ rfl (.tmp 44) (.tmp 49) 29 rfl W2.heap.size 36 (.slice none 0 0) 1 24 Tryz.underlying29 Tryz.infoP rfl (by decide) _ _ _ rfl HW1.out #[.slice ap np cp] rfl (one_cell rfl) rfl (by have := HML.out; have := HM.out; omega) (by decide) HX1.out.size ?_; intro v2 w2 hown hg _; have HW2 := hid hown; have HX2 := hid (own_grown0 HX1.out HW1.out hg); clear hown hg) | (refine wpList_slice_from _ rfl (.tmp 52) (.tmp 53) 29 36 rfl Tryz.underlying29 Tryz.infoP ao m co (0) rfl rfl HJM.out ?_; intro A' hA'; obtain ⟨xs2, hsrc, hcs⟩ := HOW.out.src_drop (by have := HM.out; have := HJM.out; omega) hA'; have HSRC := hid (hsrc _ HX2.out); have HCS := hid hcs; clear hA' hsrc hcs) | (at_builtin; refine wpList_append_src _ rfl (.tmp 51) (.tmp 54) 29 rfl W2.heap.size 36 i0 (.slice none 0 0) 1 24 Tryz.underlying29 hi hz0 hz1 hz2 rfl (by decide) _ _ _ rfl HW2.out A' (m - (0)) _ xs2 rfl (by rw [HM.out]; exact HSRC.out) (by have := HML.out; have := HM.out; unfold maxLen; omega) (by have := HML.out; have := HM.out; omega) HX2.out.size ?_; intro v3 w3 hown hg _; have HW3 := hid hown; have HX3 := hid (own_grown0 HX2.out HW2.out hg); clear hown hg))
            go_roundw
            case rel =>
              refine ⟨k + 1, by omega, by go_num, HXW.out.trans HX3.out, hid ?_⟩
              rw [HEQ.out]
              have c1 := HC1'.out.to (Kept.ext HX3.out (fun _ h => h)) (fun _ h => Nat.lt_of_lt_of_le h HX3.out.size)
              have c2 := HCS.out.to (Kept.ext HX3.out (fun _ h => h)) (fun _ h => Nat.lt_of_lt_of_le h HX3.out.size)
              have c3 := (c1.snoc (HPW.out.on HX3.out)).append c2
              have e1 : (L.take (0) ++ [p] ++ L.drop (0)).length = 0 + (0) + 1 + (m - (0)) := by
                have := HM.out
                simp only [List.length_append, List.length_take, List.length_drop, List.length_cons, List.length_nil]
                omega
              rw [show L.take (0) ++ p :: L.drop (0) = L.take (0) ++ [p] ++ L.drop (0) by simp]
              exact own_rps (by rw [e1]; exact HW3.out) (by simpa using c3) (fun _ _ h => h)
            case measure => simp only [intOf]; omega
          · obtain ⟨q, hq⟩ := some_of_lt (l := L) (j := j1) (by rw [← HM.out]; omega)
            have HQ := hid hq
            have hcp := HCP.out
            have hcq := HCL.out q (List.mem_of_getElem? hq)
            obtain ⟨b2, o2, vq, rfl, -, hn2, hm2, -, g2, g3⟩ := (HO.out.on hy).cellAt hq
            have C1 := fun (W : World) (hW : Ext wr W) => rrank_of _ p W (H2.out.on (hy.trans hW)) hcp
            have C2 := fun (W : World) (hW : Ext wr W) => rrank_of vq q W (g3.on hW) hcq
            have C3 := fun W => rrank_less (rankP p) (rankP q) W (rankP_in hcp) (rankP_in hcq)
            have HLS := hid (rankLZ_less p q)
            unfold RankV at C1 C2 C3
            generalize rankP p = ra at *
            generalize rankP q = rb at *
            obtain ⟨ra1, ra2⟩ := ra
            obtain ⟨rb1, rb2⟩ := rb
            simp only at C1 C2 C3
            have HC1 := hid C1
            have HC2 := hid C2
            obtain ⟨aq, cq, rfl⟩ := g3.form
            have L1 := fun Y : Later wr => Y.h.cell (hy.cell h1)
            have L2 := fun Y : Later wr => Y.h.cell g2
            have q1 : (0 : Int) < (j1 : Int) + 1 := by omega
            have q2 : (k : Int) < (n : Int) := by omega
            have q3 : (j1 : Int) < (m : Int) := by omega
            have q6 : IntKind.i64.wrap (j1 : Int) = (j1 : Int) := by rw [IntKind.wrap_i64]; omega
            clear hq hcp hcq C1 C2 g2 g3 hy h1
            cases hs : lessR (ra1, ra2) (rb1, rb2) with
            | true =>
              simp only [hs] at C3
              have HC3 := hid C3
              have HDN := hid (drop_less HQ.out (by rw [HLS.out, hs]; rfl) HD.out)
              clear C3 hs
              go_wp2
              refine wp_region_later (by kernel_rfl) (by kernel_rfl) ?_
              repeat (go_big_quiet_step (first | (go_at_call_of 52 (Value.slice ap np cp); exact Later.done (HC1.out _ (Later.h _))) | (go_at_call 52; exact Later.done (HC2.out _ (Later.h _))) | (go_at_call 51; exact Later.done (HC3.out _))))
              refine wpQuiet_nil ?_
              intro W2 hW2
              have HYW := hid (HY.out.trans hW2)
              clear L1 L2 hW2
              go_wp2
              go_roundw
              case rel => exact ⟨j1, by go_num, by omega, HYW.out, HDN⟩
              case measure => simp only [intOf]; omega
            | false =>
              simp only [hs] at C3
              have HC3 := hid C3
              have HAH := hid (sorted_ahead HSR.out HQ.out (by rw [HLS.out, hs]; rfl))
              clear C3 hs
              go_wp2
              refine wp_region_later (by kernel_rfl) (by kernel_rfl) ?_
              repeat (go_big_quiet_step (first | (go_at_call_of 52 (Value.slice ap np cp); exact Later.done (HC1.out _ (Later.h _))) | (go_at_call 52; exact Later.done (HC2.out _ (Later.h _))) | (go_at_call 51; exact Later.done (HC3.out _))))
              refine wpQuiet_nil ?_
              intro W2 hW2
              have HYW := hid (HY.out.trans hW2)
              have HXW := hid (HYP.out.trans hW2)
              have HOW := hid (HO.out.on HYW.out)
              have HPW := hid (H2.out.on HYW.out)
              have g1 := HYW.out.cell H1.out
              clear L1 L2 hW2
              obtain ⟨xs1, hs1, hc1'⟩ := HOW.out.src_take (k := j1 + 1) (by have := HM.out; omega)
              have HS1 := hid hs1
              have HC1' := hid hc1'
              have HEQ := hid (sortZ_put (j := j1 + 1) HP.out HF.out HL.out HAH.out HD.out)
              have HJM : Hid (j1 + 1 ≤ m) := hid hj
              have HJC : Hid (j1 + 1 ≤ co) := hid (Nat.le_trans hj hc1)
              clear hs1 hc1'
              go_wp2_with (first | (refine wpList_slice_to _ rfl (.tmp 40) (.tmp 41) 29 36 rfl Tryz.underlying29 Tryz.infoP (some ⟨b2, o2, none⟩) m co (j1 + 1) rfl rfl HJC.out ?_) | (at_builtin; refine wpList_append_src _ rfl (.tmp 39) (.tmp 42) 29 rfl W2.heap.size 36 i0 (.slice none 0 0) 1 24 Tryz.underlying29 hi hz0 hz1 hz2 rfl (by decide) (.slice none 0 0) 0 [] rfl (World.ownsRow_nil _ _ _ _) (some ⟨b2, o2, none⟩) (j1 + 1) co xs1 rfl HS1.out (by have := HML.out; have := HM.out; unfold maxLen; omega) (by have := HML.out; have := HM.out; omega) (Nat.le_refl _) ?_; intro v1 w1 hown hg _; have HW1 := hid hown; have HX1 := hid (own_grown0 (e := 36) (size := 1) (Ext.refl W2) (World.ownsRow_nil _ _ _ _) hg); have k1 := HX1.out.cell g1; clear hown hg) | (at_builtin; refine wpList_append_new _ rfl (.tmp 44) (.tmp 49) 29 rfl W2.heap.size 36 (.slice none 0 0) 1 24 Tryz.underlying29 Tryz.infoP rfl (by decide) _ _ _ rfl HW1.out #[.slice ap np cp] rfl (one_cell rfl) rfl (by have := HML.out; have := HM.out; omega) (by decide) HX1.out.size ?_; intro v2 w2 hown hg _; have HW2 := hid hown; have HX2 := hid (own_grown0 HX1.out HW1.out hg); clear hown hg) | (refine wpList_slice_from _ rfl (.tmp 52) (.tmp 53) 29 36 rfl Tryz.underlying29 Tryz.infoP (some ⟨b2, o2, none⟩) m co (j1 + 1) rfl rfl HJM.out ?_; intro A' hA'; obtain ⟨xs2, hsrc, hcs⟩ := HOW.out.src_drop (by have := HM.out; have := HJM.out; omega) hA'; have HSRC := hid (hsrc _ HX2.out); have HCS := hid hcs; clear hA' hsrc hcs) | (at_builtin; refine wpList_append_src _ rfl (.tmp 51) (.tmp 54) 29 rfl W2.heap.size 36 i0 (.slice none 0 0) 1 24 Tryz.underlying29 hi hz0 hz1 hz2 rfl (by decide) _ _ _ rfl HW2.out A' (m - (j1 + 1)) _ xs2 rfl (by rw [HM.out]; exact HSRC.out) (by have := HML.out; have := HM.out; unfold maxLen; omega) (by have := HML.out; have := HM.out; omega) HX2.out.size ?_; intro v3 w3 hown hg _; have HW3 := hid hown; have HX3 := hid (own_grown0 HX2.out HW2.out hg); clear hown hg))
              go_roundw
              case rel =>
                refine ⟨k + 1, by omega, by go_num, HXW.out.trans HX3.out, hid ?_⟩
                rw [HEQ.out]
                have c1 := HC1'.out.to (Kept.ext HX3.out (fun _ h => h)) (fun _ h => Nat.lt_of_lt_of_le h HX3.out.size)
                have c2 := HCS.out.to (Kept.ext HX3.out (fun _ h => h)) (fun _ h => Nat.lt_of_lt_of_le h HX3.out.size)
                have c3 := (c1.snoc (HPW.out.on HX3.out)).append c2
                have e1 : (L.take (j1 + 1) ++ [p] ++ L.drop (j1 + 1)).length = 0 + (j1 + 1) + 1 + (m - (j1 + 1)) := by
                  have := HM.out
                  simp only [List.length_append, List.length_take, List.length_drop, List.length_cons, List.length_nil]
                  omega
                rw [show L.take (j1 + 1) ++ p :: L.drop (j1 + 1) = L.take (j1 + 1) ++ [p] ++ L.drop (j1 + 1) by simp]
                exact own_rps (by rw [e1]; exact HW3.out) (by simpa using c3) (fun _ _ h => h)
              case measure => simp only [intOf]; omega
    · obtain rfl : k = n := by omega
      have HF : Hid (ls.take k = ls) := hid (List.take_of_length_le (by rw [HN.out]; exact Nat.le_refl _))
      clear hx hlt
      go_wp2
      go_ret
      exact ⟨_, rfl, by rw [HF.out] at HL; rw [← HL.out]; exact HO.out, HX.out⟩
end Go.Proofs.YthplgldclilccaaGreat

namespace Go.Proofs.YthplgldclilccaaGreat

theorem take_eq_succ {α : Type} {xs ys : List α} {k : Nat} {x : α} (h : xs.take k = ys.take k) (hx : xs[k]? = some x) (hy : ys[k]? = some x) : xs.take (k + 1) = ys.take (k + 1) := by
  rw [List.take_add_one, List.take_add_one, h, hx, hy]
theorem ne_of_at {α : Type} {xs ys : List α} {k : Nat} {x y : α} (hx : xs[k]? = some x) (hy : ys[k]? = some y) (h : x ≠ y) : xs ≠ ys := by
  rintro rfl
  rw [hx] at hy
  exact h (Option.some.inj hy)
end Go.Proofs.YthplgldclilccaaGreat

namespace Go.Proofs.YthplgldclilccaaGreat
open Go.RowKit

set_option maxRecDepth 100000 in
set_option maxHeartbeats 1000000 in
theorem rsame01 {S : Nat → Prop} (va vb : Value) (xs ys : List Nat) (w : World) (ha : U32s S w va xs) (hb : U32s S w vb ys) (hS : ∀ k, S k → k < w.heap.size) :
    Calls Tryz.prog 101 #[va, vb] w fun e w' => e = .returned (.bool (decide (xs = ys))) ∧ Ext w w' := by
  have HA := hid ha
  have HB := hid hb
  have hla := ha.len_le
  have hlb := hb.len_le
  obtain ⟨aa, ca, rfl⟩ := ha.form
  obtain ⟨ab, cb, rfl⟩ := hb.form
  obtain ⟨na, hna⟩ : ∃ n, n = xs.length := ⟨_, rfl⟩
  obtain ⟨nb, hnb⟩ : ∃ n, n = ys.length := ⟨_, rfl⟩
  rw [← hna] at HA hla ⊢
  rw [← hnb] at HB hlb ⊢
  have HNA := hid hna
  have HNB := hid hnb
  clear ha hb hna hnb
  by_cases hne : na = nb
  · subst hne
    go_enter Tryz.func101, Tryz.ntmps101
    go_wp2
    go_loopw [5] (fun i wr => ∃ k : Nat, k ≤ na ∧ i = .int .i64 k ∧ Ext w wr ∧ Hid (xs.take k = ys.take k)) (fun i _ => na - (intOf i).toNat)
    case atStart => exact ⟨0, Nat.zero_le _, rfl, Ext.refl _, rfl⟩
    case round =>
      obtain ⟨k, hk, rfl, hx, HE⟩ := hrel
      have HX := hid hx
      by_cases hlt : k < na
      · obtain ⟨x, hxk⟩ := some_of_lt (l := xs) (j := k) (by rw [← HNA.out]; exact hlt)
        obtain ⟨y, hyk⟩ := some_of_lt (l := ys) (j := k) (by rw [← HNB.out]; exact hlt)
        obtain ⟨b1, o1, rfl, -, hc1, hm1, hz1, h1⟩ := (HA.out.ext hx hS).cellAt hxk
        obtain ⟨b2, o2, rfl, -, hc2, hm2, hz2, h2⟩ := (HB.out.ext hx hS).cellAt hyk
        have HXK := hid hxk
        have HYK := hid hyk
        clear hxk hyk hx
        by_cases he : x = y
        · have q1 : ((x : Int) != (y : Int)) = false := by rw [he]; simp
          have H0 := hid he
          clear he
          go_wp2
          go_quiet (fail)
          go_wp2
          go_roundw
          case rel => exact ⟨k + 1, by omega, by go_num, HX.out.drewN _, take_eq_succ HE.out HXK.out (by rw [H0.out]; exact HYK.out)⟩
          case measure => simp only [intOf]; omega
        · have q1 : ((x : Int) != (y : Int)) = true := by rw [bne_iff_ne]; omega
          have HF : Hid (xs ≠ ys) := hid (ne_of_at HXK.out HYK.out he)
          clear he
          go_wp2
          go_quiet (fail)
          go_wp2
          go_ret
          exact ⟨by rw [decide_eq_false HF.out]; rfl, HX.out.drewN _⟩
      · obtain rfl : k = na := by omega
        have HF : Hid (xs = ys) := hid (by have := HE.out; rwa [List.take_of_length_le (by rw [← HNA.out]; exact Nat.le_refl _), List.take_of_length_le (by rw [← HNB.out]; exact Nat.le_refl _)] at this)
        clear hx
        go_wp2
        go_ret
        exact ⟨by rw [decide_eq_true HF.out]; rfl, HX.out⟩
  · have hb : ((na : Int) != (nb : Int)) = true := by rw [bne_iff_ne]; omega
    have HF : Hid (xs ≠ ys) := hid (fun e => hne (by rw [HNA.out, HNB.out, e]))
    clear hne
    go_enter Tryz.func101, Tryz.ntmps101
    go_wp2
    go_ret
    exact ⟨by rw [decide_eq_false HF.out]; rfl, Ext.refl _⟩
set_option maxRecDepth 100000 in
set_option maxHeartbeats 1000000 in
theorem rsame07 {S : Nat → Prop} (va vb : Value) (xs ys : Mono) (w : World) (ha : Pows S w va xs) (hb : Pows S w vb ys) (hS : ∀ k, S k → k < w.heap.size) :
    Calls Tryz.prog 56 #[va, vb] w fun e w' => e = .returned (.bool (decide (xs = ys))) ∧ Ext w w' := by
  have HA := hid ha
  have HB := hid hb
  have hla := ha.len_le
  have hlb := hb.len_le
  obtain ⟨aa, ca, rfl⟩ := ha.form
  obtain ⟨ab, cb, rfl⟩ := hb.form
  obtain ⟨na, hna⟩ : ∃ n, n = xs.length := ⟨_, rfl⟩
  obtain ⟨nb, hnb⟩ : ∃ n, n = ys.length := ⟨_, rfl⟩
  rw [← hna] at HA hla ⊢
  rw [← hnb] at HB hlb ⊢
  have HNA := hid hna
  have HNB := hid hnb
  clear ha hb hna hnb
  by_cases hne : na = nb
  · subst hne
    go_enter Tryz.func56, Tryz.ntmps56
    go_wp2
    go_loopw [5] (fun i wr => ∃ k : Nat, k ≤ na ∧ i = .int .i64 k ∧ Ext w wr ∧ Hid (xs.take k = ys.take k)) (fun i _ => na - (intOf i).toNat)
    case atStart => exact ⟨0, Nat.zero_le _, rfl, Ext.refl _, rfl⟩
    case round =>
      obtain ⟨k, hk, rfl, hx, HE⟩ := hrel
      have HX := hid hx
      by_cases hlt : k < na
      · obtain ⟨x, hxk⟩ := some_of_lt (l := xs) (j := k) (by rw [← HNA.out]; exact hlt)
        obtain ⟨y, hyk⟩ := some_of_lt (l := ys) (j := k) (by rw [← HNB.out]; exact hlt)
        obtain ⟨b1, o1, c1', hv1, hc1, hm1, ⟨⟨hz1, hz2⟩, hz3, hz4⟩, h1, h1'⟩ := (HA.out.ext hx hS).at hxk
        obtain ⟨rfl, -, rfl⟩ : aa = some ⟨b1, o1, none⟩ ∧ na = xs.length ∧ ca = c1' := by simpa using hv1
        obtain ⟨b2, o2, c2', hv2, hc2, hm2, ⟨⟨hy1, hy2⟩, hy3, hy4⟩, h2, h2'⟩ := (HB.out.ext hx hS).at hyk
        obtain ⟨rfl, -, rfl⟩ : ab = some ⟨b2, o2, none⟩ ∧ na = ys.length ∧ cb = c2' := by simpa using hv2
        clear hv1 hv2
        rw [← HNA.out] at hc1
        rw [← HNB.out] at hc2
        have HXK := hid hxk
        have HYK := hid hyk
        clear hxk hyk hx
        by_cases he : x = y
        · have H0 := hid he
          obtain ⟨x1, x2⟩ := x
          obtain ⟨y1, y2⟩ := y
          obtain ⟨rfl, rfl⟩ : x1 = y1 ∧ x2 = y2 := by simpa using he
          simp only at h1 h1' h2 h2' hz1 hz2 hz3 hz4 hy1 hy2 hy3 hy4
          clear he
          go_wp2
          go_quiet (fail)
          go_wp2
          go_roundw
          case rel => exact ⟨k + 1, by omega, by go_num, HX.out.drewN _, take_eq_succ HE.out HXK.out HYK.out⟩
          case measure => simp only [intOf]; omega
        · have HF : Hid (xs ≠ ys) := hid (ne_of_at HXK.out HYK.out he)
          obtain ⟨x1, x2⟩ := x
          obtain ⟨y1, y2⟩ := y
          simp only at h1 h1' h2 h2' hz1 hz2 hz3 hz4 hy1 hy2 hy3 hy4
          have he' : x1 ≠ y1 ∨ (x1 = y1 ∧ x2 ≠ y2) := by
            by_cases h : x1 = y1
            · exact .inr ⟨h, fun h' => he (by rw [h, h'])⟩
            · exact .inl h
          clear he
          rcases he' with he | ⟨rfl, he⟩
          all_goals
            go_wp2
            go_quiet (fail)
            go_wp2
            go_ret
            exact ⟨by rw [decide_eq_false HF.out]; rfl, HX.out.drewN _⟩
      · obtain rfl : k = na := by omega
        have HF : Hid (xs = ys) := hid (by have := HE.out; rwa [List.take_of_length_le (by rw [← HNA.out]; exact Nat.le_refl _), List.take_of_length_le (by rw [← HNB.out]; exact Nat.le_refl _)] at this)
        clear hx
        go_wp2
        go_ret
        exact ⟨by rw [decide_eq_true HF.out]; rfl, HX.out⟩
  · have hb : ((na : Int) != (nb : Int)) = true := by rw [bne_iff_ne]; omega
    have HF : Hid (xs ≠ ys) := hid (fun e => hne (by rw [HNA.out, HNB.out, e]))
    clear hne
    go_enter Tryz.func56, Tryz.ntmps56
    go_wp2
    go_ret
    exact ⟨by rw [decide_eq_false HF.out]; rfl, Ext.refl _⟩

set_option maxRecDepth 100000 in
set_option maxHeartbeats 2000000 in
theorem rsame04 {S : Nat → Prop} (v1 v2 : Value) (sn tn : Bool) (sm tm : List Nat) (w : World) (h1 : U32s S w v1 sm) (h2 : U32s S w v2 tm) (hS : ∀ k, S k → k < w.heap.size) :
    Calls Tryz.prog 55 #[.agg #[.bool sn, v1], .agg #[.bool tn, v2]] w fun e w' => e = .returned (.bool (decide (sn = tn) && decide (sm = tm))) ∧ Ext w w' := by
  have CU := fun (W : World) (hW : Ext w W) => rsame01 _ _ sm tm W (h1.ext hW hS) (h2.ext hW hS) (lt_ext hS hW)
  obtain ⟨a1, c1, rfl⟩ := h1.form
  obtain ⟨a2, c2, rfl⟩ := h2.form
  have hx : Ext w ((w.alloc (.cells #[.bool sn, .slice a1 sm.length c1] 72)).alloc (.cells #[.bool tn, .slice a2 tm.length c2] 72)) := Ext.alloc (Ext.alloc (Ext.refl w) _) _
  have HX := hid hx
  clear h1 h2 hx
  by_cases hs : sn = tn
  · subst hs
    cases hm : decide (sm = tm) with
    | false =>
      simp only [hm] at CU
      have HCU := hid CU
      clear CU hm
      go_enter Tryz.func55, Tryz.ntmps55
      go_wp2_with fail
      with_reducible refine (HCU.out _ HX.out).mono ?_
      rintro e w1 ⟨rfl, hx1⟩
      have HX1 := hid (HX.out.trans hx1)
      clear hx1
      go_wp2
      all_goals
        go_ret
        exact ⟨by simp, HX1.out⟩
    | true =>
      simp only [hm] at CU
      have HCU := hid CU
      clear CU hm
      go_enter Tryz.func55, Tryz.ntmps55
      go_wp2_with fail
      with_reducible refine (HCU.out _ HX.out).mono ?_
      rintro e w1 ⟨rfl, hx1⟩
      have HX1 := hid (HX.out.trans hx1)
      clear hx1
      go_wp2
      all_goals
        go_ret
        exact ⟨by simp, HX1.out⟩
  · have hb : (sn == tn) = false := by rw [beq_eq_false_iff_ne]; exact hs
    have HF := hid (decide_eq_false hs)
    clear hs CU
    go_enter Tryz.func55, Tryz.ntmps55
    go_wp2
    all_goals
      go_ret
      exact ⟨by rw [HF.out]; simp, HX.out⟩

set_option maxRecDepth 100000 in
set_option maxHeartbeats 4000000 in
theorem rpoly_same {S : Nat → Prop} (va vb : Value) (xs ys : List RTerm) (w : World) (ha : Terms S w va xs) (hb : Terms S w vb ys) (hS : ∀ k, S k → k < w.heap.size) :
    Calls Tryz.prog 16 #[va, vb] w fun e w' => e = .returned (.bool (decide (xs = ys))) ∧ Ext w w' := by
  have HA := hid ha
  have HB := hid hb
  have hla := ha.len_le
  have hlb := hb.len_le
  obtain ⟨aa, ca, rfl⟩ := ha.form
  obtain ⟨ab, cb, rfl⟩ := hb.form
  obtain ⟨na, hna⟩ : ∃ n, n = xs.length := ⟨_, rfl⟩
  obtain ⟨nb, hnb⟩ : ∃ n, n = ys.length := ⟨_, rfl⟩
  rw [← hna] at HA hla ⊢
  rw [← hnb] at HB hlb ⊢
  have HNA := hid hna
  have HNB := hid hnb
  clear ha hb hna hnb
  by_cases hne : na = nb
  · subst hne
    go_enter Tryz.func16, Tryz.ntmps16
    go_wp2
    go_loopw [5] (fun i wr => ∃ k : Nat, k ≤ na ∧ i = .int .i64 k ∧ Ext w wr ∧ Hid (xs.take k = ys.take k)) (fun i _ => na - (intOf i).toNat)
    case atStart => exact ⟨0, Nat.zero_le _, rfl, Ext.refl _, rfl⟩
    case round =>
      obtain ⟨k, hk, rfl, hx, HE⟩ := hrel
      have HX := hid hx
      by_cases hlt : k < na
      · obtain ⟨x, hxk⟩ := some_of_lt (l := xs) (j := k) (by rw [← HNA.out]; exact hlt)
        obtain ⟨y, hyk⟩ := some_of_lt (l := ys) (j := k) (by rw [← HNB.out]; exact hlt)
        obtain ⟨b1, o1, v1, v2, rfl, -, hc1, hm1, hz1, h1, h2, h3, h4, h5⟩ := (HA.out.ext hx hS).cellAt hxk
        obtain ⟨b2, o2, v3, v4, rfl, -, hc2, hm2, hz2, g1, g2, g3, g4, g5⟩ := (HB.out.ext hx hS).cellAt hyk
        have HXK := hid hxk
        have HYK := hid hyk
        obtain ⟨⟨xn, xm⟩, xo⟩ := x
        obtain ⟨⟨yn, ym⟩, yo⟩ := y
        simp only at h1 h2 h3 h4 h5 g1 g2 g3 g4 g5
        have hSr := lt_ext hS hx
        have C4 := fun Y : Later wr => rsame04 (S := S) v1 v3 xn yn xm ym Y.w' (h4.ext Y.h hSr) (g4.ext Y.h hSr) (lt_ext hSr Y.h)
        have C7 := fun Y : Later wr => rsame07 (S := S) v2 v4 xo yo Y.w' (h5.ext Y.h hSr) (g5.ext Y.h hSr) (lt_ext hSr Y.h)
        have L1 := fun Y : Later wr => Y.h.cell h1
        have L2 := fun Y : Later wr => Y.h.cell h2
        have L3 := fun Y : Later wr => Y.h.cell h3
        have M1 := fun Y : Later wr => Y.h.cell g1
        have M2 := fun Y : Later wr => Y.h.cell g2
        have M3 := fun Y : Later wr => Y.h.cell g3
        obtain ⟨a1, c1, rfl⟩ := h4.form
        obtain ⟨a2, c2, rfl⟩ := h5.form
        obtain ⟨a3, c3, rfl⟩ := g4.form
        obtain ⟨a4, c4, rfl⟩ := g5.form
        have hlen : Hid (xs.length = na ∧ ys.length = na) := hid ⟨HNA.out.symm, HNB.out.symm⟩
        have q1 : (k : Int) < (na : Int) := by omega
        clear h1 h2 h3 h4 h5 g1 g2 g3 g4 g5 hxk hyk hx hSr
        cases hd4 : (decide (xn = yn) && decide (xm = ym)) with
        | false =>
          have HF : Hid (xs ≠ ys) := hid (ne_of_at HXK.out HYK.out (fun e => by
            simp at e
            obtain ⟨⟨e1, e2⟩, e3⟩ := e
            rw [e1, e2] at hd4
            simp at hd4))
          simp only [hd4] at C4
          have HC4 := hid C4
          have HC7 := hid C7
          clear C4 C7 hd4
          go_wp2
          refine wp_region_later (by kernel_rfl) (by kernel_rfl) ?_
          repeat (go_big_quiet_step (first | (go_at_call 55; exact Later.done (HC4.out _))))
          refine wpQuiet_nil ?_
          intro W2 hW2
          have HW2 := hid (HX.out.trans hW2)
          clear L1 L2 L3 M1 M2 M3 hW2
          go_wp2
          go_ret
          exact ⟨by rw [decide_eq_false HF.out]; rfl, HW2.out⟩
        | true =>
          have HE4 := hid hd4
          simp only [hd4] at C4
          have HC4 := hid C4
          clear C4 hd4
          cases hd7 : decide (xo = yo) with
          | false =>
            have HF : Hid (xs ≠ ys) := hid (ne_of_at HXK.out HYK.out (fun e => by
              simp at e
              obtain ⟨⟨e1, e2⟩, e3⟩ := e
              rw [e3] at hd7
              simp at hd7))
            simp only [hd7] at C7
            have HC7 := hid C7
            clear C7 hd7
            go_wp2
            refine wp_region_later (by kernel_rfl) (by kernel_rfl) ?_
            repeat (go_big_quiet_step (first | (go_at_call 55; exact Later.done (HC4.out _)) | (go_at_call 56; exact Later.done (HC7.out _))))
            refine wpQuiet_nil ?_
            intro W2 hW2
            have HW2 := hid (HX.out.trans hW2)
            clear L1 L2 L3 M1 M2 M3 hW2
            go_wp2
            go_ret
            exact ⟨by rw [decide_eq_false HF.out]; rfl, HW2.out⟩
          | true =>
            have HF : Hid (xs.take (k + 1) = ys.take (k + 1)) := hid (take_eq_succ HE.out HXK.out (by
              have h4 := HE4.out
              simp at h4 hd7
              rw [h4.1, h4.2, hd7]
              exact HYK.out))
            simp only [hd7] at C7
            have HC7 := hid C7
            clear C7 hd7
            go_wp2
            refine wp_region_later (by kernel_rfl) (by kernel_rfl) ?_
            repeat (go_big_quiet_step (first | (go_at_call 55; exact Later.done (HC4.out _)) | (go_at_call 56; exact Later.done (HC7.out _))))
            refine wpQuiet_nil ?_
            intro W2 hW2
            have HW2 := hid (HX.out.trans hW2)
            clear L1 L2 L3 M1 M2 M3 hW2
            go_wp2
            go_roundw
            case rel => exact ⟨k + 1, by omega, by go_num, HW2.out, HF⟩
            case measure => simp only [intOf]; omega
      · obtain rfl : k = na := by omega
        have HF : Hid (xs = ys) := hid (by have := HE.out; rwa [List.take_of_length_le (by rw [← HNA.out]; exact Nat.le_refl _), List.take_of_length_le (by rw [← HNB.out]; exact Nat.le_refl _)] at this)
        clear hx
        go_wp2
        go_ret
        exact ⟨by rw [decide_eq_true HF.out]; rfl, HX.out⟩
  · have hb : ((na : Int) != (nb : Int)) = true := by rw [bne_iff_ne]; omega
    have HF : Hid (xs ≠ ys) := hid (fun e => hne (by rw [HNA.out, HNB.out, e]))
    clear hne
    go_enter Tryz.func16, Tryz.ntmps16
    go_wp2
    go_ret
    exact ⟨by rw [decide_eq_false HF.out]; rfl, Ext.refl _⟩
end Go.Proofs.YthplgldclilccaaGreat

namespace Go.Proofs.YthplgldclilccaaGreat
open Go.RowKit

section
variable {P : Program}
theorem run_append_copy (w : World) (t ty e : TypeId) (i : TypeInfo) (z : Value) (size bytes : Nat) (ht : P.underlying t = some (.slice e)) (hi : P.info? e = some i) (hz : i.zero = some z)
    (hsize : i.size = size) (hby : i.bytes = bytes) (hzs : z.cells.size = size) (hsz : 0 < size) (g : Addr)
    (A : Option Addr) (m c : Nat) (news : List Value) (hsrc : SrcAt w A m size news) (h63 : m ≤ maxLen) (hbytes : m * bytes ≤ 140737488355328) :
    ∃ v' w', (Builtin.append_ #[t, t] ty #[.slice (some g) 0 0, .slice A m c]).run P w = .ok v' w' ∧ Ext w w' ∧ (m = 0 ∧ v' = .slice (some g) 0 0 ∨ w'.ownsRow w.heap.size e size v' m news) := by
  subst hsize
  subst hby
  obtain ⟨hl, h1, hat⟩ := hsrc
  by_cases hm : m = 0
  · subst hm
    have hn : news = [] := List.eq_nil_of_length_eq_zero (by simpa using hl)
    subst hn
    refine ⟨.slice (some g) 0 0, w, ?_, Ext.refl _, .inl ⟨rfl, rfl⟩⟩
    cases A <;> simp [Builtin.append_, run_underlying ht, sizeOf, typeInfo, hi, Builtin.lenOf, Builtin.firstCells, loadCells, loadCellsFrom, storeCells]
  · obtain ⟨ad, rfl, hc⟩ := hat (by omega)
    have hb := hbytes
    have hr := run_append_grow (P := P) w t ty e i z ht hi hz g 0 0 [] (by simp) (fun j u hu => by simp at hu) ad m c news hl (fun j u hu => hc j u hu) (by omega) (by unfold maxLen at h63; omega) (growslice_fits (by omega) (by simpa using hbytes))
    have hge := grownCap_ge w (0 + m) 0 e
    have hcm : grownCap w (0 + m) 0 e ≤ maxLen := grownCap_le_maxLen w (0 + m) 0 e (by simpa using h63)
    simp only [Nat.zero_add] at hr hge hcm
    refine ⟨_, _, hr, (Ext.refl w).drew.alloc _, .inr ⟨hl, .inr ⟨w.heap.size, _, _, rfl, Nat.le_refl _, heap_alloc_new w.drew _, hge, hcm, ?_, ?_⟩⟩⟩
    · simp only [Array.size_append, List.size_toArray, List.length_nil, Nat.zero_add, size_zeroCells, hzs, hl, ← Nat.add_mul]
      congr 1
      omega
    · simp only [Array.toList_append, List.nil_append]
      rw [← hl]
      exact List.take_left

theorem step_append_copy {w : World} {ops : Array Oper} {o : Oper} {a : Act} {K : Act → World → Prop} {Q : Exit → Act → World → Prop} {E : Prop} (hgd : o.guard = none) (s x : Operand) (t : TypeId)
    (ho : o.op = .call { callee := .builtin .append, args := #[s, x], argTypes := #[t, t] })
    (e : TypeId) (i : TypeInfo) (z : Value) (size bytes : Nat) (ht : P.underlying t = some (.slice e)) (hi : P.info? e = some i) (hz : i.zero = some z)
    (hsize : i.size = size) (hby : i.bytes = bytes) (hzs : z.cells.size = size) (hsz : 0 < size)
    (g : Addr) (hs : a.eval s = .slice (some g) 0 0)
    (A : Option Addr) (m c : Nat) (news : List Value) (hx : a.eval x = .slice A m c) (hsrc : SrcAt w A m size news)
    (h63 : m ≤ maxLen) (hbytes : m * bytes ≤ 140737488355328)
    (h : ∀ v' w', Ext w w' → (m = 0 ∧ v' = .slice (some g) 0 0 ∨ w'.ownsRow w.heap.size e size v' m news) → K (a.put o.dst v') w') :
    if Region.wanted o (yielded ops a.tmps) = true then Oper.wp P o a w K Q else E := by
  have hw : Region.wanted o (yielded ops a.tmps) = true := by simp [Region.wanted, hgd]
  rw [if_pos hw]
  obtain ⟨v', w', hrun, h2, h3⟩ := run_append_copy (P := P) w t o.type e i z size bytes ht hi hz hsize hby hzs hsz g A m c news hsrc h63 hbytes
  unfold Oper.wp execOp
  simp only [ho, resolve, invoke, builtin, Sem.run_bind, Sem.run_pure, Result.andThen_ok, List.map_toArray, List.map_cons, List.map_nil, hs, hx, hrun]
  exact h v' w' h2 h3
end

theorem U32s.src0 {S : Nat → Prop} {w : World} {zs : List Nat} {a : Option Addr} {n cap : Nat} (h : U32s S w (.slice a n cap) zs) : n = zs.length ∧ SrcAt w a n 1 (zs.map uval) := by
  have h' := h
  obtain ⟨a', c', e⟩ := h.form
  obtain ⟨rfl, rfl, rfl⟩ : a = a' ∧ n = zs.length ∧ cap = c' := by simpa using e
  refine ⟨rfl, ⟨by simp, fun u hu => ?_, fun h0 => h'.src (by simpa using h0)⟩⟩
  obtain ⟨x, -, rfl⟩ := List.mem_map.1 hu
  rfl
/-- a copy of limbs, just made -/
theorem copied_u32 {w w' : World} {v : Value} {n : Nat} {zs : List Nat} {e : TypeId} {g : Addr} (h : n = 0 ∧ v = .slice (some g) 0 0 ∨ w'.ownsRow w.heap.size e 1 v n (zs.map uval)) (hn : n = zs.length) (hb : ∀ z ∈ zs, z < B32) : ∃ a c, v = .slice a n c ∧ U32s (New w w') w' v zs := by
  subst hn
  rcases h with ⟨h0, rfl⟩ | h
  · obtain rfl := List.length_eq_zero_iff.1 h0
    exact ⟨_, _, rfl, U32s.nilv _ _ _ _ (by omega)⟩
  · have hp := own_u32s h hb
    obtain ⟨a, c, rfl⟩ := hp.form
    exact ⟨a, c, rfl, hp⟩
/-- a copy of a monomial, just made -/
theorem copied_pows {w w' : World} {v : Value} {n : Nat} {m : Mono} {e : TypeId} {g : Addr} (h : n = 0 ∧ v = .slice (some g) 0 0 ∨ w'.ownsRow w.heap.size e 2 v n (flatP m)) (hn : n = m.length) (hb : inBounds m) : ∃ a c, v = .slice a n c ∧ Pows (New w w') w' v m := by
  subst hn
  rcases h with ⟨h0, rfl⟩ | h
  · obtain rfl := List.length_eq_zero_iff.1 h0
    exact ⟨_, _, rfl, Pows.empty _ _ _⟩
  · have hp := own_pows h hb
    obtain ⟨a, c, rfl⟩ := hp.form
    exact ⟨a, c, rfl, hp⟩
end Go.Proofs.YthplgldclilccaaGreat

namespace Go.Proofs.YthplgldclilccaaGreat
open Go.RowKit

set_option maxRecDepth 100000 in
set_option maxHeartbeats 8000000 in
theorem rpoly_copy {S : Nat → Prop} (v : Value) (p : List RTerm) (w : World) (h : Terms S w v p) (hS : ∀ k, S k → k < w.heap.size) (hn : p.length ≤ 1000000) (hml : ∀ t ∈ p, t.c.mag.length ≤ 1000000 ∧ t.m.length ≤ 1000000) :
    Calls Tryz.prog 10 #[v] w fun e w' => ∃ v', e = .returned v' ∧ Terms (New w w') w' v' p ∧ Ext w w' := by
  obtain ⟨u0, hu, uz0, uz1, uz2⟩ := info_parts Tryz.infoU32
  obtain ⟨i0, hi, hz0, hz1, hz2⟩ := info_parts Tryz.infoPower
  obtain ⟨j0, hj, jz0, jz1, jz2⟩ := info_parts Tryz.infoTerm
  have hl := h.len_le
  have H := hid h
  have HN := hid hn
  have HML := hid hml
  obtain ⟨a, cap, rfl⟩ := h.form
  clear h hn hml
  go_enter Tryz.func10, Tryz.ntmps10
  go_wp2
  go_loopw [3, 4] (fun o i wr => ∃ k xs, k ≤ p.length ∧ i = .int .i64 (k : Nat) ∧ Ext w wr ∧ Hid (wr.ownsRow w.heap.size 76 3 o k xs) ∧ Hid (CellsT (NewOff w wr o) wr xs (p.take k))) (fun _ i _ => p.length - (intOf i).toNat)
  case atStart => exact ⟨0, [], Nat.zero_le _, rfl, Ext.refl _, hid (World.ownsRow_nil _ _ _ _), hid rfl⟩
  case round =>
    obtain ⟨k, xs, hk, rfl, hx, HW, HXS⟩ := hrel
    have HX := hid hx
    by_cases hlt : k < p.length
    · obtain ⟨t, ht⟩ := some_of_lt hlt
      obtain ⟨b, off, vd, vo, rfl, -, hn1, hm1, hSb, h1, h2, h3, h4, h5⟩ := H.out.cellAt ht
      have HT := hid (show p.take (k + 1) = p.take k ++ [t] by rw [List.take_add_one, ht]; rfl)
      have HTM := hid (HML.out t (List.mem_of_getElem? ht))
      have H4 := hid h4
      have H5 := hid h5
      have HIB := hid h5.inBounds
      obtain ⟨ad, cd, rfl⟩ := h4.form
      obtain ⟨ao, co, rfl⟩ := h5.form
      have x0 : Ext w wr.drew := hx.drew
      have HX0 := hid x0
      have HXR := hid ((Ext.refl wr).drew)
      have h0 : _ ∧ _ ∧ _ := And.intro h1 (And.intro h2 h3)
      obtain ⟨nd, hnd⟩ : ∃ n, n = t.c.mag.length := ⟨_, rfl⟩
      obtain ⟨nm, hnm⟩ : ∃ n, n = t.m.length := ⟨_, rfl⟩
      obtain ⟨ng, hng⟩ : ∃ b, b = t.c.neg := ⟨_, rfl⟩
      rw [← hnd, ← hnm, ← hng] at h0
      rw [← hnm] at H5
      rw [← hnd] at H4
      have HND := hid hnd
      have HNM := hid hnm
      have HNG := hid hng
      have HC0 := hid h0
      have S0 : _ ∧ _ ∧ _ := And.intro (x0.cell h0.1) (And.intro (x0.cell h0.2.1) (x0.cell h0.2.2))
      have HA1 : Hid (nd ≤ maxLen) := hid (by have := HTM.out.1; unfold maxLen; omega)
      have HA2 : Hid (nd * 4 ≤ 140737488355328) := hid (by have := HTM.out.1; omega)
      have HB1 : Hid (nm ≤ maxLen) := hid (by have := HTM.out.2; unfold maxLen; omega)
      have HB2 : Hid (nm * 16 ≤ 140737488355328) := hid (by have := HTM.out.2; omega)
      have HB3 : Hid (k + 1 ≤ maxLen) := hid (by have := HN.out; unfold maxLen; omega)
      have HB4 : Hid ((k + 1) * 56 ≤ 140737488355328) := hid (by have := HN.out; omega)
      have HWR := hid (own_ext HW.out HXR.out)
      have HXSR := hid (newOff_ext HXS.out HXR.out)
      have HUB := hid h4.lt
      have HSU := hid (fun (W : World) (hW : Ext w W) => (H4.out.ext hW hS).src0.2)
      have HSP := hid (fun (W : World) (hW : Ext w W) => (Pows.ext' H5.out hW hS).src.2)
      clear ht h0 h1 h2 h3 h4 h5 hx x0 hnd hnm hng
      go_wp2
      go_region_held3 (fun W => W.cell? ⟨b, off + k * 3, none⟩ = some (.bool ng) ∧ W.cell? ⟨b, off + k * 3 + 1, none⟩ = some (.slice ad nd cd) ∧ W.cell? ⟨b, off + k * 3 + 2, none⟩ = some (.slice ao nm co)) (first | exact S0 | exact ⟨cell_old _ S0.1, cell_old _ S0.2.1, cell_old _ S0.2.2⟩ | exact ⟨cell_old _ (cell_old _ S0.1), cell_old _ (cell_old _ S0.2.1), cell_old _ (cell_old _ S0.2.2)⟩ | exact S1 | exact ⟨cell_old _ S1.1, cell_old _ S1.2.1, cell_old _ S1.2.2⟩ | exact S3 | exact ⟨cell_old _ S3.1, cell_old _ S3.2.1, cell_old _ S3.2.2⟩ | exact S5)
        (first
          | (refine step_append_copy rfl (.tmp 18) (.tmp 24) 70 rfl 111 u0 (.int .u32 0) 1 4 Tryz.underlying70 hu uz0 uz1 uz2 rfl (Nat.succ_pos _) _ rfl ad nd cd (t.c.mag.map uval) rfl (HSU.out _ (by first | exact HX0.out.alloc _ | exact (HX0.out.alloc _).alloc _)) HA1.out HA2.out ?_; intro v1 w1 hx1' hv1
             have q := copied_u32 hv1 HND.out HUB.out; obtain ⟨a1, c1, rfl, hu1⟩ := q
             have hx1 : Ext wr.drew w1 := by first | exact (Ext.alloc (Ext.refl wr.drew) _).trans hx1' | exact ((Ext.alloc (Ext.refl wr.drew) _).alloc _).trans hx1'
             have HU1 : Hid (U32s (New wr.drew w1) w1 (.slice a1 nd c1) t.c.mag) := hid (hu1.to (Kept.refl _ _) (fun k h => ⟨Nat.le_trans (by first | exact (Ext.alloc (Ext.refl wr.drew) _).size | exact ((Ext.alloc (Ext.refl wr.drew) _).alloc _).size) h.1, h.2⟩))
             have HX1 := hid hx1; have HXW1 : Hid (Ext w w1) := hid (HX0.out.trans hx1); have S1 : _ ∧ _ ∧ _ := And.intro (HXW1.out.cell HC0.out.1) (And.intro (HXW1.out.cell HC0.out.2.1) (HXW1.out.cell HC0.out.2.2)); clear hx1 hx1' hv1 hu1)
          | (refine step_append_copy rfl (.tmp 27) (.tmp 32) 74 rfl 104 i0 (.agg #[.int .i64 0, .int .i64 0]) 2 16 Tryz.underlying74 hi hz0 hz1 hz2 rfl (Nat.succ_pos _) _ rfl ao nm co (flatP t.m) rfl (HSP.out _ (by first | exact HXW1.out | exact HXW1.out.alloc _)) HB1.out HB2.out ?_; intro v3 w3 hx3' hv3
             have q := copied_pows hv3 HNM.out HIB.out; obtain ⟨a3, c3, rfl, hp3⟩ := q
             have hx3 : Ext w1 w3 := by first | exact hx3' | exact (Ext.alloc (Ext.refl w1) _).trans hx3'
             have HXR3 : Hid (Ext wr.drew w3) := hid (HX1.out.trans hx3)
             have HP3 : Hid (Pows (New wr.drew w3) w3 (.slice a3 nm c3) t.m) := hid (hp3.to (Kept.refl _ _) (fun k h => ⟨Nat.le_trans (by first | exact HX1.out.size | exact (HX1.out.alloc _).size) h.1, h.2⟩))
             have HU3 : Hid (U32s (New wr.drew w3) w3 (.slice a1 nd c1) t.c.mag) := hid (HU1.out.to (Kept.ext hx3 (fun _ h => h.2)) (fun k h => ⟨h.1, Nat.lt_of_lt_of_le h.2 hx3.size⟩))
             clear hx3 hx3' hv3 hp3; have HXW3 : Hid (Ext w w3) := hid (HX0.out.trans HXR3.out); have S3 : _ ∧ _ ∧ _ := And.intro (HXW3.out.cell HC0.out.1) (And.intro (HXW3.out.cell HC0.out.2.1) (HXW3.out.cell HC0.out.2.2)); have HW3 := hid (own_ext (own_ext HWR.out HXR3.out) (Ext.alloc (Ext.refl w3) (.cells #[.bool ng, .slice a1 nd c1, .slice a3 nm c3] 76))); have HXS3 := hid (newOff_ext HXSR.out HXR3.out); have HSRC3 := hid (src_one w3 #[.bool ng, .slice a1 nd c1, .slice a3 nm c3] 76 (three_cell rfl rfl rfl) rfl); have HB5 := hid (Nat.le_trans HXW3.out.size (World.grownBy_alloc w3 (.cells #[.bool ng, .slice a1 nd c1, .slice a3 nm c3] 76) none).size))
          | (refine step_append_src rfl (.tmp 11) (.tmp 35) 26 rfl w.heap.size 76 j0 (.agg #[.bool false, .slice none 0 0, .slice none 0 0]) 3 56 Tryz.underlying26 hj jz0 jz1 jz2 rfl (Nat.succ_pos _) _ k xs rfl HW3.out (some ⟨w3.heap.size, 0, none⟩) 1 1 _ rfl HSRC3.out HB3.out HB4.out HB5.out ?_; intro v5 w5 hown hg hbk; have HW5 := hid hown; have HG5 := hid hg; have HBK := hid hbk; have HX5 := hid (own_grown0 (HXW3.out.alloc (.cells #[.bool ng, .slice a1 nd c1, .slice a3 nm c3] 76)) HW3.out hg); have S5 : _ ∧ _ ∧ _ := And.intro (HX5.out.cell HC0.out.1) (And.intro (HX5.out.cell HC0.out.2.1) (HX5.out.cell HC0.out.2.2)); clear hown hg hbk))
      all_goals
        go_wp2
        go_roundw
        case rel =>
          refine ⟨k + 1, xs ++ (#[.bool ng, .slice a1 nd c1, .slice a3 nm c3] : Array Value).toList, by omega, by go_num, HX5.out, HW5, hid ?_⟩
          rw [HT.out]
          have hone : CellsT (New wr.drew w3) w3 (#[.bool ng, .slice a1 nd c1, .slice a3 nm c3] : Array Value).toList [t] := by
            rw [HNG.out]
            exact CellsT.single (t := t) HU3.out HP3.out
          have hall := HXS3.out.append (newOff_of HX0.out.size HWR.out hone)
          exact newOff_grown (newOff_ext hall (Ext.alloc (Ext.refl w3) (.cells #[.bool ng, .slice a1 nd c1, .slice a3 nm c3] 76))) HG5.out HBK.out (Nat.le_refl _)
        case measure => simp only [intOf]; omega
    · obtain rfl : k = p.length := by omega
      have HE : Hid (p.take p.length = p) := hid List.take_length
      clear hx
      go_wp2
      go_ret
      refine ⟨_, rfl, ?_, HX.out⟩
      have hc := HXS.out
      rw [HE.out] at hc
      exact own_terms HW.out (hc.to (Kept.refl _ _) (fun _ h => h.1)) (fun k h1 h2 => ⟨h1, h2⟩)
end Go.Proofs.YthplgldclilccaaGreat
