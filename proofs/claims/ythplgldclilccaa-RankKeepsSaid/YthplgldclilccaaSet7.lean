/- The stable sort in place, at polynomials: blocks of twenty, then merges. Some polynomials by rising ranks. Which of two lists of polynomials is lower. The document: a number, a variable, as polynomials. What the law knows. The document: classes, degrees and ranks of polynomials. Which polynomials are too great for the law. RankOrders walked. Is a polynomial reduced by each of some? Lists that are the same so far. -/
import Derived.Deep.DeepCutAuto
import Derived.Test.YthplgldclilccaaProg
import Derived.Test.YthplgldclilccaaSet6
namespace Go.Proofs.Ythplgldclilccaa
open Go.RowKit Go.Sort

section
variable {α : Type} [Inhabited α] {pc : α → PCell} {w : World} {b o : Nat} {cf : α → α → Int} {le : α → α → Bool}

theorem insertion_p' {cap l : Nat} {za zb : Int} {cur : List α} (P X T : List α) (W : World) (hc : CmpP 14 pc cf w b) (hcl : CmpLe cf le) (hcur : cur = P ++ X ++ T) (hl : l = cur.length) (hza : za = P.length) (hzb : zb = P.length + X.length) (h : SortAt (encP pc) 1 w b o cur W) (hcap : l ≤ cap) (hcap2 : l ≤ 1000000000000) :
    Calls Try.prog 111 #[.slice (some ⟨b, o, none⟩) l cap, .int .i64 za, .int .i64 zb, .func (.func 14) #[] #[]] W
      fun e w' => e = .returned (.tuple #[]) ∧ SortAt (encP pc) 1 w b o (P ++ sortL le X ++ T) w' := by
  subst hcur hl hza
  obtain rfl : zb = ((P.length + X.length : Nat) : Int) := by rw [hzb]; omega
  exact insertion_p cap P X T W hc hcl h hcap hcap2
theorem sym_merge_p' (hc : CmpP 14 pc cf w b) (hcl : CmpLe cf le) {cap l : Nat} (hcap2 : l ≤ 1000000000000) {za zm ze : Int} {cur : List α} (P A B T : List α) (W : World) (hA0 : 0 < A.length) (hB0 : 0 < B.length) (hA : SortedL le A) (hB : SortedL le B) (hcur : cur = P ++ A ++ B ++ T) (hl : l = cur.length) (hza : za = P.length) (hzm : zm = P.length + A.length) (hze : ze = P.length + A.length + B.length)
    (h : SortAt (encP pc) 1 w b o cur W) (hcap : l ≤ cap) :
      Calls Try.prog 112 #[.slice (some ⟨b, o, none⟩) l cap, .int .i64 za, .int .i64 zm, .int .i64 ze, .func (.func 14) #[] #[]] W
        fun r w' => r = .returned (.tuple #[]) ∧ SortAt (encP pc) 1 w b o (P ++ mergeL le A B ++ T) w' := by
  subst hza
  obtain rfl : zm = ((P.length + A.length : Nat) : Int) := by rw [hzm]; omega
  obtain rfl : ze = ((P.length + A.length + B.length : Nat) : Int) := by rw [hze]; omega
  exact sym_merge_p hc hcl _ P A B T cur W l _ _ _ (Nat.lt_succ_self _) hA0 hB0 hA hB hcur hl rfl rfl rfl h hcap hcap2

set_option maxRecDepth 100000 in
set_option maxHeartbeats 8000000 in
theorem stable_p {cap n : Nat} (L : List α) (W : World) (hc : CmpP 14 pc cf w b) (hcl : CmpLe cf le) (hl : n = L.length) (h : SortAt (encP pc) 1 w b o L W) (hcap : n ≤ cap) (hcap2 : n ≤ 1000000000000) :
    Calls Try.prog 83 #[.slice (some ⟨b, o, none⟩) n cap, .int .i64 n, .func (.func 14) #[] #[]] W
      fun e w' => e = .returned (.tuple #[]) ∧ SortAt (encP pc) 1 w b o (sortL le L) w' := by
  have H := hid h
  have HC := hid hc
  have HL := hid hcl
  have HN := hid hl
  clear h hc hcl hl
  go_enter Try.func83, Try.ntmps83
  go_wp2
  go_loopw [7, 8] (fun va vb wr => ∃ (a c : Nat) (S O R : List α), va = .int .i64 a ∧ vb = .int .i64 c ∧ a ≤ n ∧ Hid (c = a + 20) ∧ c ≤ n + 20 ∧ Hid (a = O.length) ∧ Hid (L = O ++ R) ∧ Hid (Full le 20 S O) ∧ SortAt (encP pc) 1 w b o (S ++ R) wr) (fun va vb _ => n - (intOf va).toNat)
  case atStart => exact ⟨0, 20, [], [], L, rfl, rfl, by omega, rfl, by omega, rfl, rfl, .nil, H.out⟩
  case round =>
    obtain ⟨a, c, S, O, R, rfl, rfl, han, HCA, hcn, HA, HLL, HF, hs⟩ := hrel
    have HS := hid hs
    clear hs
    have hn : n = O.length + R.length := by have := HN.out; rw [HLL.out] at this; simpa using this
    have hcl : n = (S ++ R).length := by rw [hn]; simp [HF.out.len]
    have HCL := hid hcl
    have HNN := hid hn
    clear hn hcl
    by_cases hlt : c ≤ n
    · obtain ⟨X, R', hX, hX20⟩ : ∃ X R', R = X ++ R' ∧ X.length = 20 := ⟨R.take 20, R.drop 20, (List.take_append_drop _ _).symm, by have := HNN.out; have := HA.out; have := HCA.out; rw [List.length_take]; omega⟩
      subst hX
      have HX := hid hX20
      have C := hid (insertion_p' (cap := cap) (l := n) (za := (a : Int)) (zb := (c : Int)) S X R' wr HC.out HL.out (by simp) HCL.out (by rw [HF.out.len]; have := HA.out; omega) (by rw [HF.out.len]; have := HA.out; have := HCA.out; omega) HS.out hcap hcap2)
      clear hX20
      go_wp2_with fail
      with_reducible refine C.out.mono ?_
      rintro e w2 ⟨rfl, hs2⟩
      have HS2 := hid hs2
      clear hs2
      go_wp2
      go_roundw
      case rel =>
        refine ⟨c, c + 20, S ++ sortL le X, O ++ X, R', rfl, by go_num, hlt, rfl, by omega, ?_, ?_, ?_, ?_⟩
        · show _ = _; have := HA.out; have := HX.out; have := HCA.out; simp; omega
        · show _ = _; rw [HLL.out]; simp
        · exact HF.out.snoc HX.out
        · exact HS2.out
      case measure => have := HCA.out; simp only [intOf]; omega
    · have C := hid (insertion_p' (cap := cap) (l := n) (za := (a : Int)) (zb := (n : Int)) S R [] wr HC.out HL.out (by simp) HCL.out (by rw [HF.out.len]; have := HA.out; omega) (by rw [HF.out.len]; have := HNN.out; omega) HS.out hcap hcap2)
      go_wp2_with fail
      with_reducible refine C.out.mono ?_
      rintro e w2 ⟨rfl, hs2⟩
      have HS2 := hid hs2
      have HB : Hid (Blk le 20 (S ++ sortL le R) L) := hid (by
        rw [HLL.out]
        exact HF.out.blk (.of_sort (by have := HNN.out; have := HA.out; have := HCA.out; omega)))
      clear hs2
      go_wp2
      go_loopw [6, 7, 8, 9] (fun vs va vb vm wr => ∃ (s : Nat) (za zb : Int) (cur : List α), vs = .int .i64 s ∧ va = .int .i64 za ∧ vb = .int .i64 zb ∧ 20 ≤ s ∧ s ≤ n + n + 20 ∧ Hid (Blk le s cur L) ∧ SortAt (encP pc) 1 w b o cur wr) (fun vs _ _ _ _ => n - (intOf vs).toNat)
      case atStart => exact ⟨20, a, c, _, rfl, rfl, rfl, by omega, by omega, HB, by have := HS2.out; simpa using this⟩
      case round =>
        clear HB HS2 HS HF HLL HCL HNN HCA HA hlt hcn han
        obtain ⟨s, za, zb, cur, rfl, rfl, rfl, hs20, hsn, HB, hs⟩ := hrel
        have HS := hid hs
        clear hs
        by_cases hlt : s < n
        · have HCN : Hid (n = cur.length) := hid (by rw [HN.out, HB.out.len])
          go_wp2
          go_loopw [7, 8] (fun va vb wr => ∃ (a c : Nat) (S O R O2 : List α), va = .int .i64 a ∧ vb = .int .i64 c ∧ a ≤ n ∧ Hid (c = a + (s + s)) ∧ c ≤ n + s + s ∧ Hid (a = O.length) ∧ Hid (L = O ++ O2) ∧ Hid (Full le (s + s) S O) ∧ Hid (Blk le s R O2) ∧ SortAt (encP pc) 1 w b o (S ++ R) wr) (fun va vb _ => n - (intOf va).toNat)
          case atStart => exact ⟨0, s + s, [], [], cur, L, rfl, by congr 1; omega, by omega, by show _ = _; omega, by omega, rfl, rfl, .nil, HB, HS.out⟩
          case round =>
            clear HCN HS HB
            obtain ⟨a, c, S, O, R, O2, rfl, rfl, han, HCA, hcn, HA, HLL, HF, HB, hs⟩ := hrel
            have HS := hid hs
            clear hs
            have hn : n = O.length + O2.length := by have := HN.out; rw [HLL.out] at this; simpa using this
            have hcl : n = (S ++ R).length := by rw [hn]; simp [HF.out.len, HB.out.len]
            have HCL := hid hcl
            have HNN := hid hn
            clear hn hcl
            by_cases hlt : c ≤ n
            · obtain ⟨X, Y, R', O', hR, hO, hX, hY, hB⟩ := HB.out.two (by omega) (by rw [HB.out.len]; have := HNN.out; have := HA.out; have := HCA.out; omega)
              have HX := hid (And.intro hX hY)
              have HO := hid hO
              have HB2 := hid hB
              have C := hid (sym_merge_p' HC.out HL.out (cap := cap) (l := n) hcap2 (za := (a : Int)) (zm := (a : Int) + (s : Int)) (ze := (c : Int)) (cur := S ++ R) S (sortL le X) (sortL le Y) R' wr (by rw [sortL_len]; omega) (by rw [sortL_len]; omega) (sortL_sorted HL.out.total X) (sortL_sorted HL.out.total Y) (by rw [hR]; simp) HCL.out (by rw [HF.out.len]; have := HA.out; omega) (by rw [HF.out.len, sortL_len]; have := HA.out; omega) (by rw [HF.out.len, sortL_len, sortL_len]; have := HA.out; have := HCA.out; omega) HS.out hcap)
              clear hR hO hX hY hB
              go_wp2_with fail
              with_reducible refine C.out.mono ?_
              rintro e w2 ⟨rfl, hs2⟩
              have HS2 := hid hs2
              clear hs2
              go_wp2
              go_roundw
              case rel =>
                refine ⟨c, c + (s + s), S ++ sortL le (X ++ Y), O ++ (X ++ Y), R', O', rfl, by congr 1; omega, hlt, rfl, by omega, ?_, ?_, ?_, HB2, ?_⟩
                · show _ = _; have := HA.out; have := HX.out; have := HCA.out; simp; omega
                · show _ = _; rw [HLL.out, HO.out]; simp
                · exact HF.out.snoc (by have := HX.out; simp; omega)
                · rw [sortL_append HL.out.total]
                  exact HS2.out
              case measure => have := HCA.out; simp only [intOf]; omega
            · by_cases hm : a + s < n
              · obtain ⟨X, Y, hR, hO, hX, hY⟩ := HB.out.part (by omega) (by rw [HB.out.len]; have := HNN.out; have := HA.out; omega) (by rw [HB.out.len]; have := HNN.out; have := HA.out; have := HCA.out; omega)
                have C := hid (sym_merge_p' HC.out HL.out (cap := cap) (l := n) hcap2 (za := (a : Int)) (zm := (a : Int) + (s : Int)) (ze := (n : Int)) (cur := S ++ R) S (sortL le X) (sortL le Y) [] wr (by rw [sortL_len]; omega) (by rw [sortL_len]; omega) (sortL_sorted HL.out.total X) (sortL_sorted HL.out.total Y) (by rw [hR]; simp) HCL.out (by rw [HF.out.len]; have := HA.out; omega) (by rw [HF.out.len, sortL_len]; have := HA.out; omega) (by rw [HF.out.len, sortL_len, sortL_len]; have h1 := HNN.out; rw [hO] at h1; simp at h1; omega) HS.out hcap)
                have HBB : Hid (Blk le (s + s) (S ++ mergeL le (sortL le X) (sortL le Y)) L) := hid (by
                  rw [HLL.out, hO, ← sortL_append HL.out.total]
                  refine HF.out.blk (.of_sort ?_)
                  have h1 := HNN.out
                  have h2 := HA.out
                  have h3 := HCA.out
                  rw [hO] at h1
                  omega)
                clear hR hO hX hY
                have q1 : (a : Int) + (s : Int) < (n : Int) := by omega
                go_wp2_with fail
                with_reducible refine C.out.mono ?_
                rintro e w2 ⟨rfl, hs2⟩
                have HS2 := hid hs2
                clear hs2
                go_wp2
                go_roundw
                case rel => exact ⟨s + s, _, _, _, by congr 1; omega, rfl, rfl, by omega, by omega, HBB, by have := HS2.out; simpa using this⟩
                case measure => simp only [intOf]; omega
              · have HBB : Hid (Blk le (s + s) (S ++ R) L) := hid (by
                  rw [HB.out.one (by rw [HB.out.len]; have := HNN.out; have := HA.out; omega), HLL.out]
                  refine HF.out.blk (.of_sort ?_)
                  have h1 := HNN.out
                  have h2 := HA.out
                  omega)
                have q1 : (n : Int) ≤ (a : Int) + (s : Int) := by omega
                go_wp2
                go_roundw
                case rel => exact ⟨s + s, _, _, _, by congr 1; omega, rfl, rfl, by omega, by omega, HBB, HS.out⟩
                case measure => simp only [intOf]; omega
        · have HF : Hid (SortAt (encP pc) 1 w b o (sortL le L) wr) := hid (by
            have := HB.out.one (by rw [HB.out.len, ← HN.out]; omega)
            rw [← this]
            exact HS.out)
          go_wp2
          go_end0
          exact ⟨rfl, HF.out⟩

set_option maxRecDepth 100000 in
theorem sort_p {cap n : Nat} (L : List α) (W : World) (hc : CmpP 14 pc cf w b) (hcl : CmpLe cf le) (hl : n = L.length) (h : SortAt (encP pc) 1 w b o L W) (hcap : n ≤ cap) (hcap2 : n ≤ 1000000000000) :
    Calls Try.prog 44 #[.slice (some ⟨b, o, none⟩) n cap, .func (.func 14) #[] #[]] W
      fun e w' => e = .returned (.tuple #[]) ∧ SortAt (encP pc) 1 w b o (sortL le L) w' := by
  have C := hid (stable_p L W hc hcl hl h hcap hcap2)
  clear hc hcl hl h
  go_enter Try.func44, Try.ntmps44
  go_wp2_with fail
  with_reducible refine C.out.mono ?_
  rintro e w2 ⟨rfl, hs2⟩
  have HS2 := hid hs2
  clear hs2
  go_wp2
  go_end0
  exact ⟨rfl, HS2.out⟩
end
end Go.Proofs.Ythplgldclilccaa

namespace Go.Proofs.Ythplgldclilccaa
open Go.RowKit Go.Sort

/-- the cells of a slice of polynomials -/
def CellsL (S : Nat → Prop) (w : World) (xs : List Value) (l : List (List RTerm)) : Prop := xs.length = l.length ∧ ∀ (j : Nat) (p : List RTerm), l[j]? = some p → ∃ vp, xs[j]? = some vp ∧ Terms S w vp p
theorem CellsL.nil (S : Nat → Prop) (w : World) : CellsL S w [] [] := ⟨rfl, fun j p h => by simp at h⟩
theorem CellsL.to {S S' : Nat → Prop} {w w' : World} {xs : List Value} {l : List (List RTerm)} (h : CellsL S w xs l) (hk : Kept S w w') (hS : ∀ k, S k → S' k) : CellsL S' w' xs l :=
  ⟨h.1, fun j p hj => by
    obtain ⟨vp, h1, h2⟩ := h.2 j p hj
    exact ⟨vp, h1, h2.to hk hS⟩⟩
theorem CellsL.snoc {S : Nat → Prop} {w : World} {xs : List Value} {l : List (List RTerm)} {v : Value} {p : List RTerm} (h : CellsL S w xs l) (hv : Terms S w v p) : CellsL S w (xs ++ [v]) (l ++ [p]) := by
  refine ⟨by simp [h.1], fun j q hj => ?_⟩
  by_cases hlt : j < l.length
  · rw [List.getElem?_append_left hlt] at hj
    rw [List.getElem?_append_left (by rw [h.1]; exact hlt)]
    exact h.2 j q hj
  · have hj2 := lt_of_some hj
    simp only [List.length_append, List.length_cons, List.length_nil] at hj2
    obtain rfl : j = l.length := by omega
    rw [List.getElem?_append_right (Nat.le_refl _), Nat.sub_self] at hj
    obtain rfl : p = q := by simpa using hj
    refine ⟨v, ?_, hv⟩
    rw [← h.1, List.getElem?_append_right (Nat.le_refl _), Nat.sub_self]
    rfl
theorem Polys.nilv (S : Nat → Prop) (w : World) (a : Option Addr) (cap : Nat) (h : cap ≤ 9223372036854775807) : Polys S w (.slice a 0 cap) [] :=
  ⟨0, 0, ⟨a, cap, rfl, Nat.zero_le _, h, fun h => absurd h (Nat.lt_irrefl 0), fun h => absurd h (Nat.lt_irrefl 0)⟩, fun j t hj => by simp at hj⟩
theorem own_polys {S : Nat → Prop} {w : World} {base : Nat} {e : TypeId} {v : Value} {xs : List Value} {l : List (List RTerm)} (h : w.ownsRow base e 1 v l.length xs) (hc : CellsL S w xs l) (hB : ∀ k, base ≤ k → k < w.heap.size → S k) : Polys S w v l := by
  have hlt := h.lt
  rcases h.2 with ⟨rfl, h0⟩ | ⟨g, cap, cur, rfl, hg, hh, h1, h2, h3, h4⟩
  · obtain rfl : l = [] := List.length_eq_zero_iff.1 h0
    exact Polys.nilv _ _ _ _ (by decide)
  · refine ⟨g, 0, ⟨_, cap, rfl, h1, h2, fun _ => rfl, fun _ => hB g (hlt g rfl).1 (hlt g rfl).2⟩, fun j t hj => ?_⟩
    obtain ⟨vp, g1, g2⟩ := hc.2 j t hj
    have hb := lt_of_some hj
    refine ⟨vp, ?_, g2⟩
    rw [h.cellAt (0 + j) (by omega), Nat.zero_add]
    exact g1
theorem Try.infoPoly : (Try.prog.info? 23).map (fun i => (i.zero, i.size, i.bytes)) = some (some (.slice none 0 0), 1, 24) := by kernel_rfl
theorem one_cellV {u : Value} (h : u.oneCell' = true) : ∀ y ∈ (#[u] : Array Value).toList, y.oneCell' = true := by
  intro y hy
  simp at hy
  rw [hy]; exact h
section
variable {w w1 w2 : World} {o : Value} {e : TypeId} {size n : Nat} {xs : List Value}
theorem cellsL_ext {l : List (List RTerm)} (h : CellsL (NewOff w w1 o) w1 xs l) (hx : Ext w1 w2) : CellsL (NewOff w w2 o) w2 xs l :=
  h.to (Kept.ext hx (fun _ h => h.1.2)) (fun _ h => ⟨⟨h.1.1, Nat.lt_of_lt_of_le h.1.2 hx.size⟩, h.2⟩)
theorem terms_off {v : Value} {p : List RTerm} (h0 : Ext w w1) (ho : w1.ownsRow w.heap.size e size o n xs) (h : Terms (New w1 w2) w2 v p) : Terms (NewOff w w2 o) w2 v p :=
  h.to (Kept.refl _ _) (fun k hk => ⟨⟨Nat.le_trans h0.size hk.1, hk.2⟩, fun e => by
    have := (ho.lt k e.symm).2
    have := hk.1
    omega⟩)
theorem cellsL_grown {v3 : Value} {w3 : World} {l : List (List RTerm)} {B : Nat} (h : CellsL (NewOff w w2 o) w2 xs l) (hg : w2.grownBy w3 o.ownBlock) (hb : v3.ownBlock = o.ownBlock ∨ v3.ownBlock = some B) (hB : w2.heap.size ≤ B) : CellsL (NewOff w w3 v3) w3 xs l :=
  h.to (Kept.grown hg (fun _ h => ⟨h.1.2, h.2⟩)) (fun k hk => ⟨⟨hk.1.1, Nat.lt_of_lt_of_le hk.1.2 hg.size⟩, by
    rcases hb with e | e
    · rw [e]; exact hk.2
    · rw [e]
      intro e2
      have e3 : k = B := Option.some.inj e2
      have := hk.1.2
      omega⟩)
end

def okP (p : List RTerm) : Bool := decide (0 < p.length) && mayT p
/-- how polynomials are sorted: by rising ranks -/
def rankC (p q : List RTerm) : Int := orderR (rankP (plainP p)) (rankP (plainP q))
def rankL (p q : List RTerm) : Bool := decide (0 ≤ rankC q p)
def sortR (l : List (List RTerm)) : List (List RTerm) := sortL rankL (l.filter okP)

/-- a polynomial whose parts lie in a world -/
structure PolyIn (S : Nat → Prop) (w : World) where
  t : List RTerm
  c : PCell
  h : Terms S w (.slice c.a c.n c.c) t
  small : smallT t
instance (S : Nat → Prop) (w : World) : Inhabited (PolyIn S w) := ⟨⟨[], ⟨none, 0, 0⟩, Terms.nilv _ _ _ _ (by decide), fun t ht => by simp at ht⟩⟩
section
variable {S : Nat → Prop} {w : World}
theorem cells_polys {xs : List Value} {ls : List (List RTerm)} (h : CellsL S w xs ls) (hs : smallL ls) : ∃ d : List (PolyIn S w), d.map (·.t) = ls ∧ xs = d.map (fun x => .slice x.c.a x.c.n x.c.c) := by
  obtain ⟨hl, hc⟩ := h
  induction ls generalizing xs with
  | nil => exact ⟨[], rfl, by simpa using List.length_eq_zero_iff.1 hl⟩
  | cons p r ih =>
    cases xs with
    | nil => simp at hl
    | cons v ys =>
      obtain ⟨vp, h1, h2⟩ := hc 0 p rfl
      obtain rfl : v = vp := by simpa using h1
      obtain ⟨d, hd1, hd2⟩ := ih (fun q hq => hs q (by simp [hq])) (xs := ys) (by simpa using hl) (fun j q hj => hc (j + 1) q (by simpa using hj))
      obtain ⟨a, c, rfl⟩ := h2.form
      exact ⟨⟨p, ⟨a, p.length, c⟩, h2, hs p (by simp)⟩ :: d, by simp [hd1], by simp [hd2]⟩
theorem own_sortAtP {base g n cap : Nat} {e : TypeId} {xs : List Value} {d : List (PolyIn S w)} (h : w.ownsRow base e 1 (.slice (some ⟨g, 0, none⟩) n cap) n xs) (hx : xs = d.map (fun x => .slice x.c.a x.c.n x.c.c)) (hn : n = d.length) : SortAt (encP (fun x : PolyIn S w => x.c)) 1 w g 0 d w ∧ n ≤ cap ∧ cap ≤ maxLen := by
  obtain ⟨hl, hh⟩ := h
  rcases hh with ⟨h1, _⟩ | ⟨g', cap', cur, h1, h2, h3, h4, h5, h6, h7⟩
  · simp at h1
  · obtain ⟨rfl, rfl⟩ : g = g' ∧ cap = cap' := by simpa using h1
    refine ⟨⟨grown_refl _ _, ?_, (Array.getElem?_eq_some_iff.1 h3).1⟩, h4, h5⟩
    intro j hj
    rw [size_flatK, Nat.mul_one] at hj
    have hj3 : j < d.length := by simpa using hj
    obtain ⟨x, hxd⟩ := some_of_lt hj3
    rw [Nat.zero_add]
    have hjn : j < n * 1 := by omega
    have hcell : w.cell? ⟨g, j, none⟩ = xs[j]? ∧ w.frozen? ⟨g, j, none⟩ = false := by
      unfold World.cell? World.frozen?
      simp only [h3]
      rw [← h7, List.getElem?_take, if_pos hjn]
      simp
    refine ⟨?_, hcell.2⟩
    rw [hcell.1, hx, get_flatK _ _ _ _ (by rw [Nat.mul_one]; exact hj), Nat.div_one, Nat.mod_one, arr_at hxd]
    simp [hxd]
end
theorem orderR_range (a b : Int × Int) : -1 ≤ orderR a b ∧ orderR a b ≤ 1 := by
  rw [orderR_eq]
  split
  · omega
  · split <;> omega
theorem orderR_le (a b : Int × Int) : 0 ≤ orderR b a ↔ (a.1 < b.1 ∨ a.1 = b.1 ∧ a.2 ≤ b.2) := by
  rw [orderR_eq]
  unfold lessR
  simp only [decide_eq_true_eq]
  split
  · omega
  · split <;> omega
theorem rank_le : CmpLe rankC rankL := by
  refine ⟨fun x y => orderR_range _ _, fun x y => rfl, ⟨fun a b c h1 h2 => ?_, fun a b => ?_⟩⟩
  · unfold rankL rankC at *
    simp only [decide_eq_true_eq, orderR_le] at *
    omega
  · unfold rankL rankC
    simp only [decide_eq_true_eq, orderR_le]
    omega
theorem polyIn_le {S : Nat → Prop} {w : World} : CmpLe (fun x y : PolyIn S w => rankC x.t y.t) (fun x y => rankL x.t y.t) :=
  ⟨fun _x _y => rank_le.range _ _, fun _x _y => rank_le.eq _ _, ⟨fun _a _b _c h1 h2 => rank_le.total.trans _ _ _ h1 h2, fun _a _b => rank_le.total.total _ _⟩⟩
theorem map_merge {α β : Type} {le : β → β → Bool} (f : α → β) (xs ys : List α) : (mergeL (fun x y => le (f x) (f y)) xs ys).map f = mergeL le (xs.map f) (ys.map f) := by
  induction xs generalizing ys with
  | nil => rw [mergeL_nil]; exact (mergeL_nil _).symm
  | cons x xs ihx =>
    induction ys with
    | nil => rw [mergeL_right]; exact (mergeL_right _).symm
    | cons y ys ihy =>
      cases h : le (f x) (f y) with
      | true =>
        rw [mergeL_pos (le := fun x y => le (f x) (f y)) xs ys h, List.map_cons, ihx, List.map_cons, List.map_cons, mergeL_pos _ _ h]
      | false =>
        rw [mergeL_neg (le := fun x y => le (f x) (f y)) xs ys h, List.map_cons, ihy, List.map_cons, List.map_cons, mergeL_neg _ _ h]
theorem map_sort {α β : Type} {le : β → β → Bool} (f : α → β) (xs : List α) : (sortL (fun x y => le (f x) (f y)) xs).map f = sortL le (xs.map f) := by
  induction xs with
  | nil => rfl
  | cons x xs ih =>
    show (mergeL _ [x] (sortL _ xs)).map f = mergeL le [f x] (sortL le (xs.map f))
    rw [map_merge, ih]
    rfl

theorem compare_cmp {S : Nat → Prop} {w : World} {g : Nat} (hS : ∀ k, S k → k < w.heap.size ∧ k ≠ g) : CmpP 14 (fun x : PolyIn S w => x.c) (fun x y => rankC x.t y.t) w g := by
  intro W hW x y
  have hk : Kept S w W := Kept.grown hW (fun k hk => ⟨(hS k hk).1, fun e => (hS k hk).2 (Option.some.inj e)⟩)
  have hSW : ∀ k, S k → k < W.heap.size := fun k hk => Nat.lt_of_lt_of_le (hS k hk).1 hW.size
  exact rank_compare _ _ x.t y.t W (x.h.to hk (fun _ h => h)) (y.h.to hk (fun _ h => h)) hSW x.small y.small

/-- the sort of no polynomials -/
theorem sort_none_p (A : Option Addr) (c : Nat) (W : World) : Calls Try.prog 44 #[.slice A 0 c, .func (.func 14) #[] #[]] W fun e w' => e = .returned (.tuple #[]) ∧ W = w' := by
  have hi : ∀ W, Calls Try.prog 111 #[.slice A 0 c, .int .i64 0, .int .i64 0, .func (.func 14) #[] #[]] W fun e w' => e = .returned (.tuple #[]) ∧ W = w' := by
    intro W
    go_enter Try.func111, Try.ntmps111
    go_wp2
    refine wp_loop_rounds 1 ?_
    rw [rounds_succ]
    go_wp2
    go_end0
    exact ⟨rfl, rfl⟩
  have HI := hid hi
  have hs : Calls Try.prog 83 #[.slice A 0 c, .int .i64 0, .func (.func 14) #[] #[]] W fun e w' => e = .returned (.tuple #[]) ∧ W = w' := by
    clear hi
    go_enter Try.func83, Try.ntmps83
    go_wp2
    refine wp_loop_rounds 1 ?_
    rw [rounds_succ]
    go_wp2_with fail
    with_reducible refine (HI.out _).mono ?_
    rintro e w1 ⟨rfl, rfl⟩
    go_wp2
    refine wp_loop_rounds 1 ?_
    rw [rounds_succ]
    go_wp2
    go_end0
    exact ⟨rfl, rfl⟩
  have HS := hid hs
  clear hi hs
  go_enter Try.func44, Try.ntmps44
  go_wp2_with fail
  with_reducible refine HS.out.mono ?_
  rintro e w1 ⟨rfl, rfl⟩
  go_wp2
  go_end0
  exact ⟨rfl, rfl⟩

set_option maxRecDepth 100000 in
set_option maxHeartbeats 4000000 in
theorem rank_sort {S : Nat → Prop} (v : Value) (ls : List (List RTerm)) (w : World) (h : Polys S w v ls) (hS : ∀ k, S k → k < w.heap.size) (hr : ∀ p ∈ ls, (∀ t ∈ p, t.c.mag.length ≤ 10000000000) ∧ p.length ≤ 1000000000) (hn : ls.length ≤ 1000000000) :
    Calls Try.prog 20 #[v] w fun e w' => ∃ v', e = .returned v' ∧ Polys (New w w') w' v' (sortR ls) ∧ Ext w w' := by
  have H := hid h
  have HR := hid hr
  have hll := h.len_le
  obtain ⟨A, c, rfl⟩ := h.form
  obtain ⟨n, hnn⟩ : ∃ n, n = ls.length := ⟨_, rfl⟩
  rw [← hnn] at H hll ⊢
  have HN := hid hnn
  have HN2 : Hid (n ≤ 1000000000) := hid (by rw [hnn]; exact hn)
  clear h hr hnn hn
  go_enter Try.func20, Try.ntmps20
  go_wp2
  go_loopw [2, 4, 5, 6, 9] (fun o _ _ _ i wr => ∃ (k m : Nat) (xs : List Value), k ≤ n ∧ i = .int .i64 k ∧ Ext w wr ∧ Hid (m = ((ls.take k).filter okP).length) ∧ Hid (wr.ownsRow w.heap.size 23 1 o m xs) ∧ Hid (CellsL (NewOff w wr o) wr xs ((ls.take k).filter okP))) (fun _ _ _ _ i _ => n - (intOf i).toNat)
  case atStart => exact ⟨0, 0, [], Nat.zero_le _, rfl, Ext.refl _, rfl, World.ownsRow_nil _ _ _ _, CellsL.nil _ _⟩
  case round =>
    obtain ⟨k, m, xs, hk, rfl, hx, HM, HW, HY⟩ := hrel
    have HX := hid hx
    by_cases hlt : k < n
    · obtain ⟨p, hp⟩ := some_of_lt (l := ls) (j := k) (by rw [← HN.out]; exact hlt)
      obtain ⟨bl, off, vp, rfl, -, hn1, hm1, hSb, h1, h2⟩ := (H.out.ext hx hS).cellAt hp
      have HT : Hid ((ls.take (k + 1)).filter okP = (ls.take k).filter okP ++ (if okP p then [p] else [])) := hid (by
        rw [List.take_add_one, hp, List.filter_append]
        congr 1
        cases h : okP p <;> simp [h])
      have HRP := hid (HR.out p (List.mem_of_getElem? hp))
      have H2 := hid h2
      have HMK : Hid (m ≤ 1000000000) := hid (by
        rw [HM.out]
        have h3 := List.length_filter_le okP (ls.take k)
        have h4 := HN2.out
        rw [List.length_take] at h3
        omega)
      have hlp := h2.len_le
      obtain ⟨ap, cp, rfl⟩ := h2.form
      have C := poly_may (S := S) (.slice ap p.length cp) p wr h2 (lt_ext hS hx) (fun t ht => Nat.le_trans (HRP.out.1 t ht) (by decide))
      have CD := fun (hm : mayT p = true) (W : World) (hW : Ext w W) (h : Terms S W (.slice ap p.length cp) p) => poly_add (S := S) (.slice ap p.length cp) (.slice none 0 0) p [] W 10000000000 h (Terms.nilv _ _ _ _ (by decide)) (lt_ext hS hW) hm rfl HRP.out.1 (fun t ht => by simp at ht) (Nat.le_refl _) (by have := HRP.out.2; simp; omega)
      obtain ⟨np, hnp⟩ : ∃ m, m = p.length := ⟨_, rfl⟩
      rw [← hnp] at h1 hlp C CD H2
      have HNP := hid hnp
      have HC := hid C
      have HCD := hid CD
      clear h2 hp hx C CD hnp
      by_cases h0 : np = 0
      · have HF : Hid (okP p = false) := hid (by unfold okP; rw [← HNP.out, h0]; rfl)
        subst h0
        go_wp2
        go_roundw
        case rel =>
          refine ⟨k + 1, m, xs, by omega, by go_num, HX.out, ?_, HW, ?_⟩
          · show _ = _; rw [HT.out, HF.out]; simpa using HM.out
          · show CellsL _ _ _ _; rw [HT.out, HF.out]; simpa using HY.out
        case measure => simp only [intOf]; omega
      · have q0 : (0 : Int) < (np : Int) := by omega
        cases hm : mayT p with
        | false =>
          have HF : Hid (okP p = false) := hid (by unfold okP; rw [hm]; simp)
          rw [hm] at HC
          go_wp2_with fail
          with_reducible refine HC.out.mono ?_
          rintro e w2 ⟨rfl, hx2⟩
          have HX2 := hid hx2
          clear hx2
          go_wp2
          go_roundw
          case rel =>
            refine ⟨k + 1, m, xs, by omega, by go_num, HX.out.trans HX2.out, ?_, own_ext HW.out HX2.out, ?_⟩
            · show _ = _; rw [HT.out, HF.out]; simpa using HM.out
            · show CellsL _ _ _ _; rw [HT.out, HF.out]; simpa using cellsL_ext HY.out HX2.out
          case measure => simp only [intOf]; omega
        | true =>
          have HF : Hid (okP p = true) := hid (by unfold okP; rw [hm, ← HNP.out]; simp; omega)
          have HPN : Hid (ofP (normP (toP p ++ toP [])) = p) := hid (by
            rw [show toP [] = [] from rfl, List.append_nil, normP_of_can (mayT_can hm)]
            exact mayT_of H2.out.okT hm)
          rw [hm] at HC
          have HCE := hid (HCD.out hm)
          clear hm HCD
          go_wp2_with fail
          with_reducible refine HC.out.mono ?_
          rintro e w2 ⟨rfl, hx2⟩
          have HX2 := hid hx2
          clear hx2
          go_wp2_with fail
          with_reducible refine (HCE.out w2 (HX.out.trans HX2.out) (H2.out.ext HX2.out (lt_ext hS HX.out))).mono ?_
          rintro e w3 ⟨v3, rfl, hp3, hx3⟩
          have HW3 := hid (own_ext HW.out (HX2.out.trans hx3))
          have HY3 := hid (cellsL_ext HY.out (HX2.out.trans hx3))
          rw [HPN.out] at hp3
          have HP3 := hid (terms_off (HX.out.trans HX2.out) (own_ext HW.out HX2.out) hp3)
          have HX3 := hid (HX.out.trans (HX2.out.trans hx3))
          obtain ⟨a3, c3, rfl⟩ := hp3.form
          rw [← HNP.out] at HP3 ⊢
          clear hp3 hx3
          go_wp2_with (at_builtin; refine wpList_append_new _ rfl (.tmp 25) (.tmp 27) 24 rfl w.heap.size 23 (.slice none 0 0) 1 24 Try.underlying24 Try.infoPoly rfl (by decide) _ m xs rfl HW3.out #[.slice a3 np c3] rfl (one_cellV rfl) rfl HMK.out (by decide) HX3.out.size ?_; intro v4 w4 hown hg hbk; have HW4 := hid hown; have HG4 := hid hg; have HBK := hid hbk; clear hown hg hbk)
          go_roundw
          case rel =>
            refine ⟨k + 1, m + 1, xs ++ (#[.slice a3 np c3] : Array Value).toList, by omega, by go_num, own_grown0 HX3.out HW3.out HG4.out, ?_, HW4.out, ?_⟩
            · show _ = _; rw [HT.out, HF.out]; simpa using HM.out
            · show CellsL _ _ _ _
              rw [HT.out, HF.out]
              exact cellsL_grown (HY3.out.snoc HP3.out) HG4.out HBK.out (Nat.le_succ _)
          case measure => simp only [intOf]; omega
    · obtain rfl : k = n := by omega
      have hcells : CellsL (NewOff w wr u2) wr xs (ls.filter okP) := by
        have := HY.out
        rwa [List.take_of_length_le (by rw [← HN.out]; exact Nat.le_refl _)] at this
      have hm : m = (ls.filter okP).length := by
        have := HM.out
        rwa [List.take_of_length_le (by rw [← HN.out]; exact Nat.le_refl _)] at this
      have HMN : Hid (m ≤ 1000000000) := hid (by
        have h1 := List.length_filter_le okP ls
        have h2 := HN2.out
        have h3 := HN.out
        omega)
      have hsm : smallL (ls.filter okP) := fun p hp t ht => Nat.le_trans ((HR.out p (List.mem_filter.1 hp).1).1 t ht) (by decide)
      have HCE := hid hcells
      obtain ⟨d, hd1, hd2⟩ := cells_polys hcells hsm
      have hown := HW.out
      rcases hown.2 with ⟨rfl, h0⟩ | ⟨g, hg', cur, rfl, hg, hgg, hnc, hcm, hsz, hcur⟩
      · have HE : Hid (sortR ls = []) := hid (by
          unfold sortR
          rw [List.length_eq_zero_iff.1 (show (ls.filter okP).length = 0 by omega)]
          rfl)
        clear hcells hm hsm hd1 hd2 hown h0 hx
        go_wp2_with fail
        with_reducible refine (sort_none_p _ _ _).mono ?_
        rintro e w2 ⟨rfl, rfl⟩
        go_wp2
        go_ret
        exact ⟨_, rfl, by rw [HE.out]; exact Polys.nilv _ _ _ _ (by decide), HX.out⟩
      · have hmd : m = d.length := by
          have h1 := congrArg List.length hd1
          rw [List.length_map] at h1
          omega
        obtain ⟨hsa, hc1, hc2⟩ := own_sortAtP hown hd2 hmd
        have hSg : ∀ k, NewOff w wr (.slice (some ⟨g, 0, none⟩) m hg') k → k < wr.heap.size ∧ k ≠ g := fun k hk => ⟨hk.1.2, fun e => hk.2 (by rw [e]; rfl)⟩
        have C := hid (sort_p (pc := fun x : PolyIn (NewOff w wr (.slice (some ⟨g, 0, none⟩) m hg')) wr => x.c) (cf := fun x y => rankC x.t y.t) (le := fun x y => rankL x.t y.t) (cap := hg') d wr (compare_cmp hSg) polyIn_le hmd hsa hc1 (by have := HMN.out; omega))
        have HD1 := hid hd1
        have HMD := hid hmd
        have HGW : Hid (w.heap.size ≤ g) := hid hg
        have HSG := hid hSg
        unfold maxLen at hc2
        have HC2 := hid hc2
        have HC1 := hid hc1
        clear hcells hm hsm hd1 hd2 hown hmd hsa hSg hg hgg hnc hcm hsz hcur hx hc1 hc2
        go_wp2_with fail
        with_reducible refine C.out.mono ?_
        rintro e w2 ⟨rfl, hs2⟩
        have HS2 := hid hs2
        clear hs2
        go_wp2
        go_ret
        have hx2 : Ext w w2 := ext_grown HX.out HS2.out.grown (fun k hk => by
          have : g = k := Option.some.inj hk
          have := HGW.out
          omega)
        refine ⟨_, rfl, ?_, hx2⟩
        have hk2 : Kept (NewOff w wr (.slice (some ⟨g, 0, none⟩) m hg')) wr w2 := Kept.grown HS2.out.grown (fun k hk => ⟨(HSG.out k hk).1, fun e => (HSG.out k hk).2 (Option.some.inj e)⟩)
        have hsr : sortR ls = (sortL (fun x y => rankL x.t y.t) d).map (·.t) := by
          unfold sortR
          rw [← HD1.out]
          exact (map_sort (fun x : PolyIn (NewOff w wr (.slice (some ⟨g, 0, none⟩) m hg')) wr => x.t) d).symm
        rw [hsr]
        have hlen : m = ((sortL (fun x y => rankL x.t y.t) d).map (·.t)).length := by rw [List.length_map, sortL_len]; exact HMD.out
        refine ⟨g, 0, ⟨_, hg', by rw [← hlen]; rfl, by rw [← hlen]; exact HC1.out, HC2.out, fun _ => rfl, fun _ => ⟨HGW.out, Nat.lt_of_lt_of_le HS2.out.old HS2.out.grown.size⟩⟩, fun j p hj => ?_⟩
        rw [List.getElem?_map] at hj
        obtain ⟨x, hx, rfl⟩ := Option.map_eq_some_iff.1 hj
        refine ⟨_, (HS2.out.get1 hx).1, x.h.to hk2 (fun k hk => ⟨hk.1.1, Nat.lt_of_lt_of_le hk.1.2 HS2.out.grown.size⟩)⟩
end Go.Proofs.Ythplgldclilccaa

namespace Go.Proofs.Ythplgldclilccaa
open Go.RowKit

/-- lists of ranks: the first that differs tells; else the longer one is lower -/
def lowerR : List (Int × Int) → List (Int × Int) → Int
  | [], [] => 0
  | [], _ :: _ => 1
  | _ :: _, [] => -1
  | a :: r, b :: q => if orderR a b = 0 then lowerR r q else orderR a b
def ranksL (l : List (List RTerm)) : List (Int × Int) := l.map fun p => rankP (plainP p)
def lowerL (l m : List (List RTerm)) : Int := lowerR (ranksL l) (ranksL m)
theorem lowerR_range (a b : List (Int × Int)) : -1 ≤ lowerR a b ∧ lowerR a b ≤ 1 := by
  induction a generalizing b with
  | nil => cases b <;> simp [lowerR]
  | cons x a ih =>
    cases b with
    | nil => simp [lowerR]
    | cons y b =>
      simp only [lowerR]
      split
      · exact ih b
      · exact orderR_range x y
theorem lowerL_at {l m : List (List RTerm)} {k : Nat} {p q : List RTerm} (hp : l[k]? = some p) (hq : m[k]? = some q) : lowerL (l.drop k) (m.drop k) = if rankC p q = 0 then lowerL (l.drop (k + 1)) (m.drop (k + 1)) else rankC p q := by
  rw [drop_at hp, drop_at hq]
  rfl
theorem lowerL_nil_left (m : List (List RTerm)) : lowerL [] m = cmpI m.length 0 := by
  cases m with
  | nil => rfl
  | cons q m =>
    show (1 : Int) = _
    unfold cmpI
    rw [if_neg (by omega), if_pos (by simp)]
theorem lowerL_nil_right (l : List (List RTerm)) : lowerL l [] = cmpI 0 l.length := by
  cases l with
  | nil => rfl
  | cons q m =>
    show (-1 : Int) = _
    unfold cmpI
    rw [if_pos (by simp)]
theorem cmpI_shift (a b c : Int) : cmpI (a - c) (b - c) = cmpI a b := by
  unfold cmpI
  simp only [show a - c < b - c ↔ a < b by omega, show b - c < a - c ↔ b < a by omega]

set_option maxRecDepth 100000 in
set_option maxHeartbeats 2000000 in
theorem rank_lower {S : Nat → Prop} (va vb : Value) (la lb : List (List RTerm)) (w : World) (ha : Polys S w va la) (hb : Polys S w vb lb) (hS : ∀ k, S k → k < w.heap.size) (hra : smallL la) (hrb : smallL lb) :
    Calls Try.prog 19 #[va, vb] w fun e w' => e = .returned (.int .i64 (lowerL la lb)) ∧ Ext w w' := by
  have HA := hid ha
  have HB := hid hb
  have HRA := hid hra
  have HRB := hid hrb
  have hla := ha.len_le
  have hlb := hb.len_le
  obtain ⟨aa, ca, rfl⟩ := ha.form
  obtain ⟨ab, cb, rfl⟩ := hb.form
  obtain ⟨na, hna⟩ : ∃ n, n = la.length := ⟨_, rfl⟩
  obtain ⟨nb, hnb⟩ : ∃ n, n = lb.length := ⟨_, rfl⟩
  rw [← hna] at HA hla ⊢
  rw [← hnb] at HB hlb ⊢
  have HNA := hid hna
  have HNB := hid hnb
  clear ha hb hra hrb hna hnb
  obtain ⟨n, hn⟩ : ∃ n, n = min na nb := ⟨_, rfl⟩
  have q0 : min (na : Int) (nb : Int) = (n : Int) := by omega
  have hna' : n ≤ na := by omega
  have hnb' : n ≤ nb := by omega
  have HMIN := hid hn
  clear hn
  go_enter Try.func19, Try.ntmps19
  go_wp2
  go_loopw [5, 6, 12] (fun _ _ i wr => ∃ k : Nat, k ≤ n ∧ i = .int .i64 k ∧ Ext w wr ∧ Hid (lowerL la lb = lowerL (la.drop k) (lb.drop k))) (fun _ _ i _ => n - (intOf i).toNat)
  case atStart => exact ⟨0, Nat.zero_le _, rfl, Ext.refl _, rfl⟩
  case round =>
    obtain ⟨k, hk, rfl, hx, HL⟩ := hrel
    have HX := hid hx
    by_cases hlt : k < n
    · obtain ⟨p, hp⟩ := some_of_lt (l := la) (j := k) (by rw [← HNA.out]; omega)
      obtain ⟨q, hq⟩ := some_of_lt (l := lb) (j := k) (by rw [← HNB.out]; omega)
      obtain ⟨b1, o1, vp, rfl, -, hn1, hm1, hS1, h1, h2⟩ := (HA.out.ext hx hS).cellAt hp
      obtain ⟨b2, o2, vq, rfl, -, hn2, hm2, hS2, h3, h4⟩ := (HB.out.ext hx hS).cellAt hq
      have HLA := hid (lowerL_at hp hq)
      have HC := hid (fun Y : Later wr => rank_compare (S := S) vp vq p q Y.w' (h2.ext Y.h (lt_ext hS hx)) (h4.ext Y.h (lt_ext hS hx)) (lt_ext hS (hx.trans Y.h)) (HRA.out p (List.mem_of_getElem? hp)) (HRB.out q (List.mem_of_getElem? hq)))
      obtain ⟨ap, cp, rfl⟩ := h2.form
      obtain ⟨aq, cq, rfl⟩ := h4.form
      obtain ⟨r1, r2⟩ := orderR_range (rankP (plainP p)) (rankP (plainP q))
      have HRC : Hid (rankC p q = orderR (rankP (plainP p)) (rankP (plainP q))) := hid rfl
      generalize orderR (rankP (plainP p)) (rankP (plainP q)) = c at *
      have L1 := fun Y : Later wr => Y.h.cell h1
      have L2 := fun Y : Later wr => Y.h.cell h3
      have q1 : (k : Int) < (na : Int) := by omega
      have q2 : (k : Int) < (nb : Int) := by omega
      clear h1 h2 h3 h4 hp hq hx
      by_cases h0 : c = 0
      · subst h0
        go_wp2
        refine wp_region_later (by kernel_rfl) (by kernel_rfl) ?_
        repeat (go_big_quiet_step (first | (go_at_call 14; exact Later.done (HC.out _))))
        refine wpQuiet_nil ?_
        intro W2 hW2
        have HW2 := hid (HX.out.trans hW2)
        clear L1 L2 hW2
        go_wp2
        go_roundw
        case rel => exact ⟨k + 1, by omega, by go_num, HW2.out, by show _ = _; rw [HL.out, HLA.out, if_pos HRC.out]⟩
        case measure => simp only [intOf]; omega
      · have h0b : (c != 0) = true := by rw [bne_iff_ne]; exact h0
        have H0 := hid h0
        clear h0
        go_wp2
        refine wp_region_later (by kernel_rfl) (by kernel_rfl) ?_
        repeat (go_big_quiet_step (first | (go_at_call 14; exact Later.done (HC.out _))))
        refine wpQuiet_nil ?_
        intro W2 hW2
        have HW2 := hid (HX.out.trans hW2)
        clear L1 L2 hW2
        go_wp2
        go_ret
        exact ⟨by rw [HL.out, HLA.out, if_neg (by rw [HRC.out]; exact H0.out), HRC.out]; rfl, HW2.out⟩
    · obtain rfl : k = n := by omega
      have HF : Hid (lowerL la lb = cmpI nb na) := hid (by
        rw [HL.out]
        have h1 := HMIN.out
        have h2 := HNA.out
        have h3 := HNB.out
        rcases (show k = na ∨ k = nb by omega) with h | h
        · rw [List.drop_of_length_le (show la.length ≤ k by omega), lowerL_nil_left, List.length_drop]
          rw [show ((lb.length - k : Nat) : Int) = (nb : Int) - (na : Int) by omega, show (0 : Int) = (na : Int) - (na : Int) by omega, cmpI_shift]
        · rw [List.drop_of_length_le (show lb.length ≤ k by omega), lowerL_nil_right, List.length_drop]
          rw [show ((la.length - k : Nat) : Int) = (na : Int) - (nb : Int) by omega, show (0 : Int) = (nb : Int) - (nb : Int) by omega, cmpI_shift])
      have C := hid (cmp_int (nb : Int) (na : Int) wr (by omega) (by omega))
      clear hx
      go_wp2_with fail
      with_reducible refine C.out.mono ?_
      rintro e w2 ⟨rfl, rfl⟩
      go_wp2
      go_ret
      exact ⟨by rw [HF.out]; rfl, HX.out⟩
end Go.Proofs.Ythplgldclilccaa

namespace Go.Proofs.Ythplgldclilccaa
open Go.RowKit

theorem szZ_le {z : Int} {n : Nat} (h : z.natAbs < 10 ^ n) (hn : n ≤ 2000000) : szZ z := Nat.le_trans (rep_len_le two_le_10 _ _ h) hn
theorem szZ_i64 {n : Nat} (h : n < 9223372036854775808) : szZ (n : Int) := szZ_le (n := 19) (by simp only [Int.natAbs_natCast]; omega) (by omega)
/-- a number as a polynomial -/
def numP (n : Nat) : PZ := putP [] (n : Int) []
theorem New.plus {w w1 : World} : ∀ k, Plus (fun _ => False) w w1 k → New w w1 k := fun k hk => by
  rcases hk with h | h
  · exact h.elim
  · exact h

set_option maxRecDepth 100000 in
set_option maxHeartbeats 4000000 in
theorem rpoly_small (n : Nat) (w : World) (hn : n < 9223372036854775808) :
    Calls Try.prog 34 #[.int .i64 (n : Nat)] w fun e w' => ∃ v', e = .returned v' ∧ RTs (New w w') w' v' (numP n) ∧ Ext w w' := by
  have C1 := hid (zed_small n w hn)
  have HZ := hid (szZ_i64 hn)
  clear hn
  go_enter Try.func34, Try.ntmps34
  go_wp2_with fail
  refine C1.out.mono ?_
  rintro e w1 ⟨v1, rfl, hz1, hx1⟩
  have HX1 := hid hx1
  have C2 := hid (rpoly_put (S := New w w1) (.slice none 0 0) v1 (.slice none 0 0) [] (n : Int) [] w1 (fun _ h => h.2) (RTs.nilv _ _ _ _ (by omega)) hz1 (Pows.empty _ _ _) canP_nil.may rfl ⟨by simp, fun t ht => by simp at ht⟩ HZ.out)
  clear hx1 hz1
  go_wp2_with fail
  refine C2.out.mono ?_
  rintro e w2 ⟨v2, rfl, hp2, hx2⟩
  have HX2 := hid (HX1.out.trans hx2)
  have HP2 : Hid (RTs (New w w2) w2 v2 (numP n)) := hid (hp2.to (Kept.refl _ _) (fun k hk => by
    rcases hk with h | h
    · exact ⟨h.1, Nat.lt_of_lt_of_le h.2 hx2.size⟩
    · exact ⟨Nat.le_trans HX1.out.size h.1, h.2⟩))
  clear hp2 hx2
  go_wp2
  all_goals
    go_ret
    exact ⟨_, rfl, HP2.out, HX2.out⟩

set_option maxRecDepth 100000 in
set_option maxHeartbeats 4000000 in
theorem rpoly_x (x : Int) (w : World) (hx : inI64 x) :
    Calls Try.prog 30 #[.int .i64 x] w fun e w' => ∃ v', e = .returned v' ∧ RTs (New w w') w' v' [(1, [(x, 1)])] ∧ Ext w w' := by
  have C1 := hid (zed_small 1 w (by omega))
  have HXX := hid hx
  clear hx
  go_enter Try.func30, Try.ntmps30
  go_wp2_with fail
  refine C1.out.mono ?_
  rintro e w1 ⟨v1, rfl, hz1, hx1⟩
  obtain ⟨vd, rfl, hd⟩ := hz1
  have HX1 := hid hx1
  have HD := hid hd
  obtain ⟨ad, cd, rfl⟩ := hd.form
  obtain ⟨nd, hnd⟩ : ∃ n, n = (rep 10 ((1 : Nat) : Int).natAbs).length := ⟨_, rfl⟩
  obtain ⟨bd, hbd⟩ : ∃ b, b = decide (((1 : Nat) : Int) < 0) := ⟨_, rfl⟩
  rw [← hnd] at HD ⊢
  rw [← hbd]
  have HB := hid hbd
  clear hx1 hd hnd hbd
  go_wp2
  go_ret
  have x2 : Ext w1 ((w1.alloc (.cells #[.int .i64 x, .int .i64 1] 82)).alloc (.cells #[.bool bd, .slice ad nd cd, .slice (some ⟨w1.heap.size, 0, none⟩) 1 1] 103)) := (Ext.alloc (Ext.alloc (Ext.refl w1) _) _)
  have hb : (w1.alloc (.cells #[.int .i64 x, .int .i64 1] 82)).heap.size = w1.heap.size + 1 := size_alloc _ _
  refine ⟨_, rfl, ?_, HX1.out.trans x2⟩
  refine ⟨w1.heap.size + 1, 0, ⟨_, 1, rfl, Nat.le_refl _, by decide, fun _ => by rw [← hb], fun _ => ⟨Nat.le_trans HX1.out.size (Nat.le_succ _), by rw [size_alloc, hb] <;> omega⟩⟩, fun j t hj => ?_⟩
  have hj0 : j = 0 := by have := lt_of_some hj; simp at this; exact this
  subst hj0
  obtain rfl : (1, [(x, 1)]) = t := by simpa using hj
  refine ⟨.slice ad nd cd, .slice (some ⟨w1.heap.size, 0, none⟩) 1 1, ?_, ?_, ?_, HD.out.to (Kept.ext x2 (fun _ h => h.2)) (fun k h => ⟨h.1, Nat.lt_of_lt_of_le h.2 x2.size⟩), ?_⟩
  · exact cell_new _ _ _ (by rw [hb]) (by rw [HB.out]; rfl)
  · exact cell_new _ _ _ (by rw [hb]) rfl
  · exact cell_new _ _ _ (by rw [hb]) rfl
  · refine ⟨w1.heap.size, 0, ⟨_, 1, rfl, Nat.le_refl _, by decide, fun _ => rfl, fun _ => ⟨HX1.out.size, by rw [size_alloc, hb] <;> omega⟩⟩, fun j t hj => ?_⟩
    have hj0 : j = 0 := by have := lt_of_some hj; simp at this; exact this
    subst hj0
    obtain rfl : (x, 1) = t := by simpa using hj
    have hin : inI64 (1 : Int) := by unfold inI64; omega
    exact ⟨⟨HXX.out, hin⟩, cell_old _ (cell_new _ _ _ rfl rfl), cell_old _ (cell_new _ _ _ rfl rfl)⟩
end Go.Proofs.Ythplgldclilccaa

namespace Go.Proofs.Ythplgldclilccaa
open Go.RowKit

/-- the terms of a product, one by one; nothing, where an exponent is too great -/
def pairP (t u : Int × Mono) : Option (Int × Mono) := (rtimes t.2 u.2).map fun m => (t.1 * u.1, m)
def prodL (p q : PZ) : List (Option (Int × Mono)) := p.flatMap fun t => q.map (pairP t)
/-- all of them, if each is there -/
def allO : List (Option (Int × Mono)) → Option PZ
  | [] => some []
  | none :: _ => none
  | some x :: r => (allO r).map (x :: ·)
def timesP (p q : PZ) : Option PZ := (allO (prodL p q)).map normP
theorem allO_some {xs : PZ} : allO (xs.map some) = some xs := by
  induction xs with
  | nil => rfl
  | cons x r ih => simp only [List.map_cons, allO, ih, Option.map_some]
theorem allO_none {l r : List (Option (Int × Mono))} : allO (l ++ none :: r) = none := by
  induction l with
  | nil => rfl
  | cons x l ih =>
    cases x with
    | none => rfl
    | some x => simp only [List.cons_append, allO, ih, Option.map_none]
theorem prodL_snoc (p q : PZ) (t : Int × Mono) : prodL (p ++ [t]) q = prodL p q ++ q.map (pairP t) := by
  unfold prodL
  rw [List.flatMap_append]
  simp
theorem prodL_take {p : PZ} {k : Nat} {t : Int × Mono} (q : PZ) (h : p[k]? = some t) : prodL (p.take (k + 1)) q = prodL (p.take k) q ++ q.map (pairP t) := by
  rw [List.take_add_one, h]
  exact prodL_snoc _ _ _
theorem prodL_split {p : PZ} {k : Nat} {t : Int × Mono} (q : PZ) (h : p[k]? = some t) : prodL p q = prodL (p.take k) q ++ q.map (pairP t) ++ prodL (p.drop (k + 1)) q := by
  have e : p = p.take k ++ t :: p.drop (k + 1) := by rw [← drop_at h, List.take_append_drop]
  conv => lhs; rw [e]
  unfold prodL
  rw [List.flatMap_append, List.flatMap_cons, List.append_assoc]
/-- bounds of length and of coefficients -/
def bndP (p : PZ) (L M : Nat) : Prop := p.length ≤ L ∧ ∀ t ∈ p, t.1.natAbs ≤ M
theorem putP_len (p : PZ) (c : Int) (m : Mono) : (putP p c m).length ≤ p.length + 1 := by
  induction p with
  | nil => simp only [putP]; split <;> simp
  | cons t r ih =>
    simp only [putP]
    split
    · simp only [List.length_cons]; omega
    · split
      · split <;> simp only [List.length_cons] <;> omega
      · split <;> simp only [List.length_cons] <;> omega
theorem putP_abs {p : PZ} {c : Int} {m : Mono} {M N : Nat} (h : ∀ t ∈ p, t.1.natAbs ≤ M) (hc : c.natAbs ≤ N) : ∀ t ∈ putP p c m, t.1.natAbs ≤ M + N := by
  induction p with
  | nil =>
    intro t ht
    simp only [putP] at ht
    split at ht
    · simp at ht
    · rw [List.mem_singleton.1 ht]; simp only; omega
  | cons u r ih =>
    have hu := h u (by simp)
    have hr : ∀ t ∈ r, t.1.natAbs ≤ M := fun t ht => h t (by simp [ht])
    have ih := ih hr
    intro t ht
    simp only [putP] at ht
    split at ht
    · rcases List.mem_cons.1 ht with rfl | ht
      · omega
      · exact ih t ht
    · split at ht
      · split at ht
        · have := hr t ht; omega
        · rcases List.mem_cons.1 ht with rfl | ht
          · simp only; omega
          · have := hr t ht; omega
      · split at ht
        · have := h t ht; omega
        · rcases List.mem_cons.1 ht with rfl | ht
          · simp only; omega
          · have := h t ht; omega
theorem putP_bnd {p : PZ} {c : Int} {m : Mono} {L M N : Nat} (h : bndP p L M) (hc : c.natAbs ≤ N) : bndP (putP p c m) (L + 1) (M + N) :=
  ⟨Nat.le_trans (putP_len _ _ _) (by have := h.1; omega), putP_abs h.2 hc⟩
theorem addP_bnd {p l : PZ} {L M N : Nat} (h : bndP p L M) (hl : ∀ t ∈ l, t.1.natAbs ≤ N) : bndP (addP p l) (L + l.length) (M + l.length * N) := by
  induction l generalizing p L M with
  | nil => simpa [addP] using h
  | cons t r ih =>
    have h1 := ih (putP_bnd (m := t.2) h (hl t (by simp))) (fun u hu => hl u (by simp [hu]))
    show bndP (addP (putP p t.1 t.2) r) _ _
    simp only [List.length_cons]
    refine ⟨by have := h1.1; omega, fun u hu => ?_⟩
    have := h1.2 u hu
    rw [Nat.add_mul]
    omega
theorem bnd_nil : bndP [] 0 0 := ⟨by simp, fun t ht => by simp at ht⟩
theorem sz_of_bnd {p : PZ} {L M n : Nat} (h : bndP p L M) (hL : L ≤ 100000000) (hM : M < 10 ^ n) (hn : n ≤ 2000000) : szP p :=
  ⟨Nat.le_trans h.1 hL, fun t ht => szZ_le (Nat.lt_of_le_of_lt (h.2 t ht) hM) hn⟩
theorem mayTail_snoc {m : Mono} {l v e : Int} (h : mayTail l m = true) (hv : ∀ x ∈ m, x.1 < v) (hl : l < v) (h2 : v ≤ 200) (h3 : 1 ≤ e ∧ e ≤ 10000) : mayTail l (m ++ [(v, e)]) = true := by
  induction m generalizing l with
  | nil =>
    simp only [List.nil_append, mayTail, Bool.and_true, decide_eq_true_eq]
    omega
  | cons x r ih =>
    simp only [List.cons_append, mayTail, Bool.and_eq_true] at h ⊢
    exact ⟨h.1, ih h.2 (fun y hy => hv y (by simp [hy])) (hv x (by simp))⟩
theorem ofE_vars (f : Nat → Int) (k : Nat) : ∀ x ∈ ofE f k, x.1 ≤ (k : Int) := by
  induction k with
  | zero => intro x hx; simp [ofE] at hx
  | succ k ih =>
    intro x hx
    simp only [ofE] at hx
    split at hx
    · rcases List.mem_append.1 hx with hx | hx
      · have := ih x hx; omega
      · rw [List.mem_singleton.1 hx]; simp only; omega
    · have := ih x hx; omega
theorem ofE_may {f : Nat → Int} {n : Nat} (hn : n ≤ 200) (h : ∀ j, 1 ≤ j → j ≤ n → f j ≤ 10000) : mayM (ofE f n) = true := by
  induction n with
  | zero => rfl
  | succ k ih =>
    have ih := ih (by omega) (fun j h1 h2 => h j h1 (by omega))
    simp only [ofE]
    split
    · rename_i hp
      refine mayTail_snoc ih (fun x hx => ?_) (by omega) (by omega) ⟨by omega, h (k + 1) (by omega) (Nat.le_refl _)⟩
      have := ofE_vars f k x hx
      omega
    · exact ih
theorem overF_not {f : Nat → Int} {n : Nat} (h : overF f n = false) : ∀ j, 1 ≤ j → j ≤ n → f j ≤ 10000 := by
  induction n with
  | zero => intro j h1 h2; omega
  | succ k ih =>
    simp only [overF, Bool.or_eq_false_iff, decide_eq_false_iff_not] at h
    intro j h1 h2
    by_cases e : j = k + 1
    · subst e; have := h.2; omega
    · exact ih h.1 j h1 (by omega)
theorem rtimes_may {a b m : Mono} (h : rtimes a b = some m) : mayM m = true := by
  unfold rtimes at h
  split at h
  · cases h
  · rename_i ho
    cases h
    exact ofE_may (Nat.le_refl _) (overF_not (by simpa using ho))

theorem prodL_length (p q : PZ) : (prodL p q).length = p.length * q.length := by
  induction p with
  | nil => simp [prodL]
  | cons t r ih =>
    have e : prodL (t :: r) q = q.map (pairP t) ++ prodL r q := by unfold prodL; rw [List.flatMap_cons]
    rw [e, List.length_append, List.length_map, ih, List.length_cons, Nat.add_mul]
    omega
theorem prodL_get {p q : PZ} {k j : Nat} {t u : Int × Mono} (ht : p[k]? = some t) (hu : q[j]? = some u) : (prodL p q)[k * q.length + j]? = some (pairP t u) := by
  have hj := lt_of_some hu
  induction p generalizing k with
  | nil => simp at ht
  | cons x r ih =>
    have e : prodL (x :: r) q = q.map (pairP x) ++ prodL r q := by unfold prodL; rw [List.flatMap_cons]
    rw [e]
    cases k with
    | zero =>
      obtain rfl : x = t := by simpa using ht
      rw [Nat.zero_mul, Nat.zero_add, List.getElem?_append_left (by rw [List.length_map]; exact hj), List.getElem?_map, hu]
      rfl
    | succ k =>
      have := ih (k := k) (by simpa using ht)
      rw [List.getElem?_append_right (by rw [List.length_map, Nat.add_mul]; omega), List.length_map, show (k + 1) * q.length + j - q.length = k * q.length + j by rw [Nat.add_mul]; omega]
      exact this
theorem pairP_some {t u x : Int × Mono} (h : pairP t u = some x) : mayM x.2 = true ∧ x.1 = t.1 * u.1 := by
  unfold pairP at h
  cases hr : rtimes t.2 u.2 with
  | none => rw [hr] at h; simp at h
  | some m =>
    rw [hr] at h
    simp at h
    subst h
    exact ⟨rtimes_may hr, rfl⟩
theorem prodL_mem {p q : PZ} {x : Int × Mono} (h : some x ∈ prodL p q) : mayM x.2 = true ∧ ∃ t ∈ p, ∃ u ∈ q, x.1 = t.1 * u.1 := by
  unfold prodL at h
  obtain ⟨t, ht, h⟩ := List.mem_flatMap.1 h
  obtain ⟨u, hu, h⟩ := List.mem_map.1 h
  exact ⟨(pairP_some h).1, t, ht, u, hu, (pairP_some h).2⟩
/-- the first n are there -/
def firstN (p q : PZ) (n : Nat) (xs : PZ) : Prop := (prodL p q).take n = xs.map some
theorem firstN_zero (p q : PZ) : firstN p q 0 [] := rfl
theorem firstN_next {p q : PZ} {n : Nat} {xs : PZ} {x : Int × Mono} (h : firstN p q n xs) (hx : (prodL p q)[n]? = some (some x)) : firstN p q (n + 1) (xs ++ [x]) := by
  unfold firstN at h ⊢
  rw [List.take_add_one, h, hx]
  simp
theorem firstN_none {p q : PZ} {n : Nat} {xs : PZ} (_h : firstN p q n xs) (hx : (prodL p q)[n]? = some none) : timesP p q = none := by
  unfold timesP
  have e : prodL p q = (prodL p q).take n ++ none :: (prodL p q).drop (n + 1) := by rw [← drop_at hx, List.take_append_drop]
  rw [e, allO_none]
  rfl
theorem firstN_all {p q : PZ} {n : Nat} {xs : PZ} (h : firstN p q n xs) (hn : n = p.length * q.length) : timesP p q = some (normP xs) := by
  unfold firstN at h
  rw [List.take_of_length_le (by rw [prodL_length]; omega)] at h
  unfold timesP
  rw [h, allO_some]
  rfl
theorem firstN_mem {p q : PZ} {n : Nat} {xs : PZ} (h : firstN p q n xs) {x : Int × Mono} (hx : x ∈ xs) : mayM x.2 = true ∧ ∃ t ∈ p, ∃ u ∈ q, x.1 = t.1 * u.1 := by
  apply prodL_mem
  have : some x ∈ (prodL p q).take n := by rw [h]; exact List.mem_map.2 ⟨x, hx, rfl⟩
  exact List.mem_of_mem_take this
theorem firstN_len {p q : PZ} {n : Nat} {xs : PZ} (h : firstN p q n xs) : xs.length ≤ p.length * q.length := by
  have h1 : ((prodL p q).take n).length = xs.length := by rw [h, List.length_map]
  rw [← h1, List.length_take, prodL_length]
  exact Nat.min_le_right _ _
/-- sizes that a product takes -/
def szM (p q : PZ) : Prop := ∃ N n, (∀ t ∈ p, ∀ u ∈ q, (t.1 * u.1).natAbs ≤ N) ∧ p.length * q.length ≤ 100000000 ∧ p.length * q.length * N < 10 ^ n ∧ n ≤ 2000000
theorem firstN_sz {p q : PZ} {n : Nat} {xs : PZ} (h : firstN p q n xs) (hs : szM p q) : szP (normP xs) := by
  obtain ⟨N, e, h1, h2, h3, h4⟩ := hs
  have hl := firstN_len h
  have hb := addP_bnd (N := N) bnd_nil (l := xs) (fun t ht => by
    obtain ⟨_, a, ha, b, hb, hh⟩ := firstN_mem h ht
    rw [hh]
    exact h1 a ha b hb)
  simp only [Nat.zero_add] at hb
  exact sz_of_bnd hb (by omega) (Nat.lt_of_le_of_lt (Nat.mul_le_mul_right N hl) h3) h4
theorem szM_one {p q : PZ} (hs : szM p q) {t u : Int × Mono} (ht : t ∈ p) (hu : u ∈ q) : szZ (t.1 * u.1) := by
  obtain ⟨N, e, h1, h2, h3, h4⟩ := hs
  have h5 := h1 t ht u hu
  have hp : 0 < p.length := List.length_pos_of_mem ht
  have hq : 0 < q.length := List.length_pos_of_mem hu
  have : 1 * N ≤ p.length * q.length * N := Nat.mul_le_mul_right N (Nat.mul_pos hp hq)
  exact szZ_le (Nat.lt_of_le_of_lt (by omega) h3) h4
end Go.Proofs.Ythplgldclilccaa

namespace Go.Proofs.Ythplgldclilccaa
open Go.RowKit

/-- what a product answers -/
def timesB : Option PZ → Bool
  | none => false
  | some _ => true
def timesV : Option PZ → PZ
  | none => []
  | some p => p

set_option maxRecDepth 100000 in
set_option maxHeartbeats 8000000 in
theorem rpoly_times {S : Nat → Prop} (vp vq : Value) (p q : PZ) (w : World) (hS : ∀ k, S k → k < w.heap.size) (hp : RTs S w vp p) (hq : RTs S w vq q) (hmp : mayAll p) (hmq : mayAll q) (hszp : szP p) (hszq : szP q) (hsz : szM p q) :
    Calls Try.prog 68 #[vp, vq] w fun e w' => ∃ v', e = .returned (.tuple #[v', .bool (timesB (timesP p q))]) ∧ RTs (Plus S w w') w' v' (timesV (timesP p q)) ∧ Ext w w' := by
  have hlp := hp.len_le
  have hlq := hq.len_le
  have HP := hid hp
  have HQ := hid hq
  have HMP := hid hmp
  have HMQ := hid hmq
  have HZP := hid hszp
  have HZQ := hid hszq
  have HSZ := hid hsz
  obtain ⟨ap, cp, rfl⟩ := hp.form
  obtain ⟨aq, cq, rfl⟩ := hq.form
  obtain ⟨R, hR⟩ : ∃ R, R = timesP p q := ⟨_, rfl⟩
  rw [← hR]
  have HR := hid hR
  clear hp hq hmp hmq hszp hszq hsz hR
  go_enter Try.func68, Try.ntmps68
  go_wp2
  go_loopw [6, 7] (fun o i wr => ∃ k xs n, k ≤ p.length ∧ i = .int .i64 (k : Nat) ∧ Ext w wr ∧ Hid (n = k * q.length) ∧ Hid (firstN p q n xs) ∧ Hid (RTs (Plus S w wr) wr o (normP xs))) (fun _ i _ => p.length - (intOf i).toNat)
  case atStart => exact ⟨0, [], 0, Nat.zero_le _, rfl, Ext.refl _, hid (by rw [Nat.zero_mul]), hid (firstN_zero _ _), hid (RTs.nilv _ _ _ _ (by omega))⟩
  case round =>
    obtain ⟨k, xs, n, hk, rfl, hx, HN, HF, HO⟩ := hrel
    have HX := hid hx
    by_cases hlt : k < p.length
    · obtain ⟨t, ht⟩ := some_of_lt hlt
      have HT := hid ht
      clear ht hx
      go_wp2
      go_loopw [6, 8] (fun o i wr => ∃ j xs n, j ≤ q.length ∧ i = .int .i64 (j : Nat) ∧ Ext w wr ∧ Hid (n = k * q.length + j) ∧ Hid (firstN p q n xs) ∧ Hid (RTs (Plus S w wr) wr o (normP xs))) (fun _ i _ => q.length - (intOf i).toNat)
      case atStart => exact ⟨0, xs, n, Nat.zero_le _, rfl, HX.out, hid (by rw [HN.out, Nat.add_zero]), HF, HO⟩
      case round =>
        clear HO HF HN HX
        clear xs n
        obtain ⟨j, xs, n, hj, rfl, hx, HN, HF, HO⟩ := hrel
        have HX := hid hx
        by_cases hlj : j < q.length
        · obtain ⟨u, hu⟩ := some_of_lt hlj
          have HGET : Hid ((prodL p q)[n]? = some (pairP t u)) := hid (by rw [HN.out]; exact prodL_get HT.out hu)
          have HTP := hid (List.mem_of_getElem? HT.out)
          have HUQ := hid (List.mem_of_getElem? hu)
          obtain ⟨b, off, vd, vo, rfl, -, hn1, hm1, hSb, h1, h2, h3, h4, h5⟩ := HP.out.cellAt HT.out
          obtain ⟨b', off', vd', vo', rfl, -, hn1', hm1', hSb', h1', h2', h3', h4', h5'⟩ := HQ.out.cellAt hu
          have H4 := hid h4
          have H5 := hid h5
          have H4' := hid h4'
          have H5' := hid h5'
          obtain ⟨ad, cd, rfl⟩ := h4.form
          obtain ⟨ao, co, rfl⟩ := h5.form
          obtain ⟨ad', cd', rfl⟩ := h4'.form
          obtain ⟨ao', co', rfl⟩ := h5'.form
          have x0 : Ext w wr.drew := hx.drew
          have HX0 := hid x0
          have HXR := hid ((Ext.refl wr).drew)
          have S0 : _ ∧ _ := And.intro (x0.cell h3) (x0.cell h3')
          have CT := rmono_times (S := S) _ _ t.2 u.2 wr.drew (H5.out.ext x0 hS) (H5'.out.ext x0 hS) (lt_ext hS x0) (HMP.out t HTP.out) (HMQ.out u HUQ.out)
          have CM := fun (W : World) (hW : Ext w W) => zed_mul (S := S) (.agg #[.bool (decide (t.1 < 0)), .slice ad (rep 10 t.1.natAbs).length cd]) (.agg #[.bool (decide (u.1 < 0)), .slice ad' (rep 10 u.1.natAbs).length cd']) t.1 u.1 W ⟨_, rfl, H4.out.ext hW hS⟩ ⟨_, rfl, H4'.out.ext hW hS⟩ (lt_ext hS hW) (HZP.out.2 t HTP.out) (HZQ.out.2 u HUQ.out)
          obtain ⟨bt, hbt⟩ : ∃ b, b = decide (t.1 < 0) := ⟨_, rfl⟩
          obtain ⟨nt, hnt⟩ : ∃ n, n = (rep 10 t.1.natAbs).length := ⟨_, rfl⟩
          obtain ⟨bu, hbu⟩ : ∃ b, b = decide (u.1 < 0) := ⟨_, rfl⟩
          obtain ⟨nu, hnu⟩ : ∃ n, n = (rep 10 u.1.natAbs).length := ⟨_, rfl⟩
          obtain ⟨mt, hmt⟩ : ∃ n, n = t.2.length := ⟨_, rfl⟩
          obtain ⟨mu, hmu⟩ : ∃ n, n = u.2.length := ⟨_, rfl⟩
          rw [← hbt, ← hnt, ← hbu, ← hnu] at CM
          rw [← hmt, ← hmu] at S0 CT
          rw [← hbt] at h1
          rw [← hnt] at h2
          rw [← hbu] at h1'
          rw [← hnu] at h2'
          have HC0 : Hid (_ ∧ _ ∧ _ ∧ _) := hid (And.intro h1 (And.intro h2 (And.intro h1' h2')))
          have HCM := hid CM
          have HSO := hid (szM_one HSZ.out HTP.out HUQ.out)
          have HSX := hid (firstN_sz HF.out HSZ.out)
          have HMX : Hid (mayAll (normP xs)) := hid (normP_can (fun y hy => (firstN_mem HF.out hy).1)).may
          clear hu h1 h2 h3 h4 h5 h1' h2' h3' h4' h5' hx x0 CM hbt hnt hbu hnu hmt hmu
          cases hr : rtimes t.2 u.2 with
          | none =>
            have HRN : Hid (R = none) := hid (HR.out.trans (firstN_none HF.out (by rw [HGET.out]; unfold pairP; rw [hr]; rfl)))
            rw [hr] at CT
            unfold rterr rtval at CT
            simp only at CT
            have HCT := hid CT
            clear CT hr
            go_wp2
            go_region_held3 (fun W => W.cell? ⟨b, off + k * 3 + 2, none⟩ = some (.slice ao mt co) ∧ W.cell? ⟨b', off' + j * 3 + 2, none⟩ = some (.slice ao' mu co')) (first | exact S0 | exact S1)
              (first
                | (go_at_call 100; (with_reducible refine HCT.out.mono ?_); rintro e w1 ⟨v1, rfl, hp1, hx1⟩; have S1 : _ ∧ _ := And.intro (hx1.cell S0.1) (hx1.cell S0.2); have HX1 := hid (HX0.out.trans hx1); clear hx1 hp1))
            go_wp2
            all_goals
              go_ret2
              rw [HRN.out]
              exact ⟨_, rfl, RTs.nilv _ _ _ _ (by omega), HX1.out⟩
          | some m =>
            have HMM := hid (rtimes_may hr)
            have HNX := hid (firstN_next HF.out (x := (t.1 * u.1, m)) (by rw [HGET.out]; unfold pairP; rw [hr]; rfl))
            rw [hr] at CT
            unfold rterr rtval at CT
            simp only at CT
            have HCT := hid CT
            clear CT hr
            go_wp2
            go_region_held3 (fun W => W.cell? ⟨b, off + k * 3 + 2, none⟩ = some (.slice ao mt co) ∧ W.cell? ⟨b', off' + j * 3 + 2, none⟩ = some (.slice ao' mu co')) (first | exact S0 | exact S1)
              (first
                | (go_at_call 100; (with_reducible refine HCT.out.mono ?_); rintro e w1 ⟨v1, rfl, hp1, hx1⟩; have S1 : _ ∧ _ := And.intro (hx1.cell S0.1) (hx1.cell S0.2); have HX1 := hid (HX0.out.trans hx1); have HXR1 := hid (HXR.out.trans hx1); have HP1 : Hid (Pows (Plus S w w1) w1 v1 m) := hid (hp1.to (Kept.refl _ _) (new_plus HX0.out.size)); clear hx1 hp1))
            have x1 : Ext w w1.drew := HX1.out.drew
            have HX1D := hid x1
            have T0 : _ ∧ _ ∧ _ ∧ _ := And.intro (x1.cell HC0.out.1) (And.intro (x1.cell HC0.out.2.1) (And.intro (x1.cell HC0.out.2.2.1) (x1.cell HC0.out.2.2.2)))
            have HCM1 := hid (HCM.out w1.drew x1)
            clear x1 S0 S1
            go_wp2
            go_region_held3 (fun W => W.cell? ⟨b, off + k * 3, none⟩ = some (.bool bt) ∧ W.cell? ⟨b, off + k * 3 + 1, none⟩ = some (.slice ad nt cd) ∧ W.cell? ⟨b', off' + j * 3, none⟩ = some (.bool bu) ∧ W.cell? ⟨b', off' + j * 3 + 1, none⟩ = some (.slice ad' nu cd')) (first | exact T0 | exact T1 | exact T2)
              (first
                | (go_at_call 101; (with_reducible refine HCM1.out.mono ?_); rintro e w2 ⟨v2, rfl, hz2, hx2⟩; have T1 : _ ∧ _ ∧ _ ∧ _ := And.intro (hx2.cell T0.1) (And.intro (hx2.cell T0.2.1) (And.intro (hx2.cell T0.2.2.1) (hx2.cell T0.2.2.2))); have HX2 : Hid (Ext w w2) := hid (HX1D.out.trans hx2); have HX12 : Hid (Ext w1 w2) := hid (((Ext.refl w1).drew).trans hx2); have C2 := hid (rpoly_put (S := Plus S w w2) _ _ _ (normP xs) (t.1 * u.1) m w2 (plus_lt hS HX2.out) (RTs.later hS HO.out HX.out (HXR1.out.trans HX12.out)) (hz2.to (Kept.refl _ _) (new_plus HX1D.out.size)) (HP1.out.to (Kept.ext HX12.out (plus_lt hS HX1.out)) (plus_grow HX12.out.size)) HMX.out HMM.out HSX.out HSO.out); clear hx2 hz2)
                | (go_at_call 70; (with_reducible refine C2.out.mono ?_); rintro e w3 ⟨v3, rfl, hp3, hx3⟩; have T2 : _ ∧ _ ∧ _ ∧ _ := And.intro (hx3.cell T1.1) (And.intro (hx3.cell T1.2.1) (And.intro (hx3.cell T1.2.2.1) (hx3.cell T1.2.2.2))); have HX3 := hid (HX2.out.trans hx3); have HP3 := hid (hp3.to (Kept.refl _ _) (plus_plus HX2.out hx3)); clear hx3 hp3))
            go_wp2
            go_roundw
            case rel => exact ⟨j + 1, xs ++ [(t.1 * u.1, m)], n + 1, by omega, by go_num, HX3.out, hid (by rw [HN.out, Nat.add_assoc]), HNX, hid (by unfold normP; rw [addP_snoc]; exact HP3.out)⟩
            case measure => simp only [intOf]; omega
        · obtain rfl : j = q.length := by omega
          clear hx
          go_wp2
          go_roundw
          case rel => exact ⟨k + 1, xs, n, by omega, by go_num, HX.out, hid (by rw [HN.out, Nat.add_mul, Nat.one_mul]), HF, HO⟩
          case measure => simp only [intOf]; omega
    · obtain rfl : k = p.length := by omega
      have HRS := hid (HR.out.trans (firstN_all HF.out HN.out))
      clear hx
      go_wp2
      all_goals
        go_ret2
        rw [HRS.out]
        exact ⟨_, rfl, HO.out, HX.out⟩
end Go.Proofs.Ythplgldclilccaa

namespace Go.Proofs.Ythplgldclilccaa
open Go.RowKit

set_option maxRecDepth 100000 in
set_option maxHeartbeats 4000000 in
theorem rpoly_mul {S : Nat → Prop} (vp vq : Value) (p q : PZ) (w : World) (hS : ∀ k, S k → k < w.heap.size) (hp : RTs S w vp p) (hq : RTs S w vq q) (hmp : mayAll p) (hmq : mayAll q) (hszp : szP p) (hszq : szP q) (hsz : szM p q) :
    Calls Try.prog 31 #[vp, vq] w fun e w' => ∃ v', e = .returned v' ∧ RTs (Plus S w w') w' v' (timesV (timesP p q)) ∧ Ext w w' := by
  have HT := hid (rpoly_times vp vq p q w hS hp hq hmp hmq hszp hszq hsz)
  clear hp hq
  go_enter Try.func31, Try.ntmps31
  go_wp2_with fail
  refine HT.out.mono ?_
  rintro e w1 ⟨v1, rfl, hp1, hx1⟩
  have HX1 := hid hx1
  have HP1 := hid hp1
  clear hx1 hp1
  go_wp2
  all_goals
    go_ret
    exact ⟨_, rfl, HP1.out, HX1.out⟩

abbrev knX : PZ := [(1, [(1, 1)])]
abbrev knY : PZ := [(1, [(2, 1)])]
abbrev knYY : PZ := [(1, [(2, 2)])]
abbrev knA : PZ := [(1, [(1, 1), (2, 2)])]
abbrev knB : PZ := [(1, [(2, 1)]), (1, [])]
theorem kn1 : timesV (timesP knY knY) = knYY := by kernel_rfl
theorem kn2 : timesV (timesP knX knYY) = knA := by kernel_rfl
theorem kn3 : addP knY (numP 1) = knB := by kernel_rfl
theorem can_one {m : Mono} (h : mayM m = true) : canP [(1, m)] := ⟨fun t ht => by rw [List.mem_singleton.1 ht]; exact ⟨by show (1 : Int) ≠ 0; decide, h⟩, List.pairwise_singleton _ _⟩
theorem knX_can : canP knX := can_one rfl
theorem knY_can : canP knY := can_one rfl
theorem knYY_can : canP knYY := can_one rfl
theorem knA_can : canP knA := can_one rfl
theorem knB_can : canP knB := by
  rw [← kn3]
  exact (addP_can knY_can (putP_may canP_nil.may rfl)).1
theorem ones_sz {p : PZ} (h : p.length ≤ 100) (h1 : ∀ t ∈ p, t.1 = 1) : szP p := ⟨by omega, fun t ht => by rw [h1 t ht]; exact szZ_i64 (n := 1) (by omega)⟩
theorem ones_szM {p q : PZ} (hp : p.length = 1) (hq : q.length = 1) (h1 : ∀ t ∈ p, t.1 = 1) (h2 : ∀ t ∈ q, t.1 = 1) : szM p q :=
  ⟨1, 1, fun t ht u hu => by rw [h1 t ht, h2 u hu]; decide, by rw [hp, hq]; omega, by rw [hp, hq]; decide, by omega⟩
theorem ones_small {p : PZ} (h1 : ∀ t ∈ p, t.1 = 1) : smallT (ofP p) := fun t ht => by
  obtain ⟨u, hu, rfl⟩ := List.mem_map.1 ht
  have e := h1 u hu
  refine Nat.le_trans (rep_len_le two_le_B32 _ 1 ?_) (by omega)
  rw [e]
  decide
theorem plainP_ofP {p : PZ} (h : canP p) : plainP (ofP p) = p := by
  unfold plainP
  rw [if_pos (mayT_ofP h)]
  exact toP_ofP p
theorem rk1 : orderR (rankP knX) (rankP knY) = -1 := by kernel_rfl
theorem rk2 : reducedP knX knY = true := by kernel_rfl
theorem rk3 : orderR (rankP knA) (rankP knB) = 1 := by kernel_rfl
theorem rk4 : reducedP knA knB = false := by kernel_rfl
theorem rk5 : rankP knA = (2, 2) := by kernel_rfl
theorem RTs.old {w : World} {S : Nat → Prop} {v : Value} {p : PZ} (h : RTs S w v p) (hS : ∀ k, S k → k < w.heap.size) : RTs (Old w) w v p := h.to (Kept.refl _ _) hS
theorem Terms.old {w : World} {S : Nat → Prop} {v : Value} {p : List RTerm} (h : Terms S w v p) (hS : ∀ k, S k → k < w.heap.size) : Terms (Old w) w v p := h.to (Kept.refl _ _) hS
theorem Polys.on {w W : World} {v : Value} {z : List (List RTerm)} (h : Polys (Old w) w v z) (hx : Ext w W) : Polys (Old W) W v z := h.to (Kept.ext hx (fun _ h => h)) (old_lt hx)
theorem Terms.on {w W : World} {v : Value} {z : List RTerm} (h : Terms (Old w) w v z) (hx : Ext w W) : Terms (Old W) W v z := h.to (Kept.ext hx (fun _ h => h)) (old_lt hx)
theorem all_one {m : Mono} : ∀ t ∈ ([(1, m)] : PZ), t.1 = 1 := fun t ht => by rw [List.mem_singleton.1 ht]
theorem knB_one : ∀ t ∈ knB, t.1 = 1 := fun t ht => by
  simp at ht
  rcases ht with rfl | rfl <;> rfl
theorem kn_len {p : PZ} (h : mayAll p) : ∀ t ∈ p, t.2.length ≤ 1000000 := fun t ht => Nat.le_trans (mayM_len (h t ht)) (by omega)
theorem knOne : szP (numP 1) := ones_sz (p := [(1, [])]) (by decide) all_one
theorem kn_step (k : Nat) : szP (addP knY ((numP 1).take k)) := by
  cases k with
  | zero => exact ones_sz (p := knY) (by decide) all_one
  | succ k =>
    have e : (numP 1).take (k + 1) = numP 1 := List.take_of_length_le (by show 1 ≤ k + 1; omega)
    rw [e, kn3]
    exact ones_sz (by decide) knB_one

set_option maxRecDepth 100000 in
set_option maxHeartbeats 8000000 in
theorem law15_known (w : World) :
    Calls Try.prog 9 #[] w fun e w' => e = .returned (.bool true) ∧ Ext w w' := by
  have hnot : ∀ (x : Bool) (w : World), (Op.unary .not (.bool x)).run Try.prog w = .ok (.bool (!x)) w := fun _ _ => rfl
  go_enter Try.func9, Try.ntmps9
  go_wp2_with fail
  refine (rpoly_x 1 w (by unfold inI64; omega)).mono ?_
  rintro e w1 ⟨v1, rfl, hp1, hx1⟩
  have HX1 : Hid (Ext w w1) := hid hx1
  have HP1 := hid (RTs.old hp1 New.lt)
  obtain ⟨a1, c1, rfl⟩ := hp1.form
  clear hx1 hp1
  go_wp2_with fail
  refine (rpoly_x 2 w1 (by unfold inI64; omega)).mono ?_
  rintro e w2 ⟨v2, rfl, hp2, hx2⟩
  have HX2 : Hid (Ext w1 w2) := hid hx2
  have HP2 := hid (RTs.old hp2 New.lt)
  obtain ⟨a2, c2, rfl⟩ := hp2.form
  clear hx2 hp2
  go_wp2_with fail
  refine (rpoly_mul (S := Old w2) _ _ knY knY w2 (fun _ h => h) HP2.out HP2.out knY_can.may knY_can.may (ones_sz (by decide) all_one) (ones_sz (by decide) all_one) (ones_szM rfl rfl all_one all_one)).mono ?_
  rw [kn1]
  rintro e w3 ⟨v3, rfl, hp3, hx3⟩
  have HX3 : Hid (Ext w2 w3) := hid hx3
  have HP3 := hid (RTs.old hp3 (plus_lt (fun _ h => h) hx3))
  obtain ⟨a3, c3, rfl⟩ := hp3.form
  clear hx3 hp3
  go_wp2_with fail
  refine (rpoly_mul (S := Old w3) _ _ knX knYY w3 (fun _ h => h) (RTs.on HP1.out (HX2.out.trans HX3.out)) HP3.out knX_can.may knYY_can.may (ones_sz (by decide) all_one) (ones_sz (by decide) all_one) (ones_szM rfl rfl all_one all_one)).mono ?_
  rw [kn2]
  rintro e w4 ⟨v4, rfl, hp4, hx4⟩
  have HX4 : Hid (Ext w3 w4) := hid hx4
  have HP4 := hid (RTs.old hp4 (plus_lt (fun _ h => h) hx4))
  obtain ⟨a4, c4, rfl⟩ := hp4.form
  clear hx4 hp4
  go_wp2_with fail
  refine (rpoly_poly (S := Old w4) _ knA w4 HP4.out (fun _ h => h) (ones_sz (by decide) all_one) (kn_len knA_can.may)).mono ?_
  rintro e w5 ⟨v5, rfl, hp5, hx5⟩
  have HX5 : Hid (Ext w4 w5) := hid hx5
  have HP5 := hid (Terms.old hp5 New.lt)
  obtain ⟨a5, c5, rfl⟩ := hp5.form
  clear hx5 hp5
  go_wp2_with fail
  refine (rpoly_small 1 w5 (by omega)).mono ?_
  rintro e w6 ⟨v6, rfl, hp6, hx6⟩
  have HX6 : Hid (Ext w5 w6) := hid hx6
  have HP6 := hid (RTs.old hp6 New.lt)
  obtain ⟨a6, c6, rfl⟩ := hp6.form
  clear hx6 hp6
  go_wp2_with fail
  refine (rpoly_add (S := Old w6) _ _ knY (numP 1) w6 (fun _ h => h) (RTs.on HP2.out (HX3.out.trans (HX4.out.trans (HX5.out.trans HX6.out)))) HP6.out knY_can.may (putP_may canP_nil.may rfl) knOne (fun k _ => kn_step k)).mono ?_
  rw [kn3]
  rintro e w7 ⟨v7, rfl, hp7, hx7⟩
  have HX7 : Hid (Ext w6 w7) := hid hx7
  have HP7 := hid (RTs.old hp7 (plus_lt (fun _ h => h) hx7))
  obtain ⟨a7, c7, rfl⟩ := hp7.form
  clear hx7 hp7
  go_wp2_with fail
  refine (rpoly_poly (S := Old w7) _ knB w7 HP7.out (fun _ h => h) (ones_sz (by decide) knB_one) (kn_len knB_can.may)).mono ?_
  rintro e w8 ⟨v8, rfl, hp8, hx8⟩
  have HX8 : Hid (Ext w7 w8) := hid hx8
  have HP8 := hid (Terms.old hp8 New.lt)
  obtain ⟨a8, c8, rfl⟩ := hp8.form
  have HA8 := hid (Terms.on HP5.out (HX6.out.trans (HX7.out.trans hx8)))
  have HY1 := hid (RTs.on HP1.out (HX2.out.trans (HX3.out.trans (HX4.out.trans (HX5.out.trans (HX6.out.trans (HX7.out.trans hx8)))))))
  have HY2 := hid (RTs.on HP2.out (HX3.out.trans (HX4.out.trans (HX5.out.trans (HX6.out.trans (HX7.out.trans hx8))))))
  have HXX := hid (HX1.out.trans (HX2.out.trans (HX3.out.trans (HX4.out.trans (HX5.out.trans (HX6.out.trans (HX7.out.trans hx8)))))))
  clear hx8 hp8
  go_wp2_with fail
  refine (rpoly_poly (S := Old w8) _ knX w8 HY1.out (fun _ h => h) (ones_sz (by decide) all_one) (kn_len knX_can.may)).mono ?_
  rintro e w9 ⟨v9, rfl, hp9, hx9⟩
  have HX9 : Hid (Ext w8 w9) := hid hx9
  have HP9 := hid (Terms.old hp9 New.lt)
  obtain ⟨a9, c9, rfl⟩ := hp9.form
  clear hx9 hp9
  go_wp2_with fail
  refine (rpoly_poly (S := Old w9) _ knY w9 (RTs.on HY2.out HX9.out) (fun _ h => h) (ones_sz (by decide) all_one) (kn_len knY_can.may)).mono ?_
  rintro e w10 ⟨v10, rfl, hp10, hx10⟩
  have HX10 : Hid (Ext w9 w10) := hid hx10
  have HP10 := hid (Terms.old hp10 New.lt)
  obtain ⟨a10, c10, rfl⟩ := hp10.form
  clear hx10 hp10
  go_wp2_with fail
  refine (rank_compare (S := Old w10) _ _ (ofP knX) (ofP knY) w10 (Terms.on HP9.out HX10.out) HP10.out (fun _ h => h) (ones_small all_one) (ones_small all_one)).mono ?_
  rw [plainP_ofP knX_can, plainP_ofP knY_can, rk1]
  rintro e w11 ⟨rfl, hx11⟩
  have HX11 : Hid (Ext w8 w11) := hid (HX9.out.trans (HX10.out.trans hx11))
  clear hx11
  go_wp2_with fail
  refine (rpoly_poly (S := Old w11) _ knX w11 (RTs.on HY1.out HX11.out) (fun _ h => h) (ones_sz (by decide) all_one) (kn_len knX_can.may)).mono ?_
  rintro e w12 ⟨v12, rfl, hp12, hx12⟩
  have HX12 : Hid (Ext w8 w12) := hid (HX11.out.trans hx12)
  have HP12 := hid (Terms.old hp12 New.lt)
  obtain ⟨a12, c12, rfl⟩ := hp12.form
  clear hx12 hp12
  go_wp2_with fail
  refine (rpoly_poly (S := Old w12) _ knY w12 (RTs.on HY2.out HX12.out) (fun _ h => h) (ones_sz (by decide) all_one) (kn_len knY_can.may)).mono ?_
  rintro e w13 ⟨v13, rfl, hp13, hx13⟩
  have HX13a : Hid (Ext w12 w13) := hid hx13
  have HX13 : Hid (Ext w8 w13) := hid (HX12.out.trans hx13)
  have HP13 := hid (Terms.old hp13 New.lt)
  obtain ⟨a13, c13, rfl⟩ := hp13.form
  clear hx13 hp13
  go_wp2_with fail
  refine (rank_reduced (S := Old w13) _ _ (ofP knX) (ofP knY) w13 (Terms.on HP12.out HX13a.out) HP13.out (fun _ h => h) (ones_small all_one) (ones_small all_one)).mono ?_
  rw [plainP_ofP knX_can, plainP_ofP knY_can, rk2]
  rintro e w14 ⟨rfl, hx14⟩
  have HX14 : Hid (Ext w8 w14) := hid (HX13.out.trans hx14)
  clear hx14
  go_wp2_with fail
  refine (rank_compare (S := Old w14) _ _ (ofP knA) (ofP knB) w14 (Terms.on HA8.out HX14.out) (Terms.on HP8.out HX14.out) (fun _ h => h) (ones_small all_one) (ones_small knB_one)).mono ?_
  rw [plainP_ofP knA_can, plainP_ofP knB_can, rk3]
  rintro e w15 ⟨rfl, hx15⟩
  have HX15 : Hid (Ext w8 w15) := hid (HX14.out.trans hx15)
  clear hx15
  go_wp2_with fail
  refine (rank_reduced (S := Old w15) _ _ (ofP knA) (ofP knB) w15 (Terms.on HA8.out HX15.out) (Terms.on HP8.out HX15.out) (fun _ h => h) (ones_small all_one) (ones_small knB_one)).mono ?_
  rw [plainP_ofP knA_can, plainP_ofP knB_can, rk4]
  rintro e w16 ⟨rfl, hx16⟩
  have HX16 : Hid (Ext w8 w16) := hid (HX15.out.trans hx16)
  clear hx16
  go_wp2_with fail
  refine (rank_of (S := Old w16) _ (ofP knA) w16 (Terms.on HA8.out HX16.out) (fun _ h => h) (ones_small all_one)).mono ?_
  rw [plainP_ofP knA_can, rk5]
  unfold RankV
  rintro e w17 ⟨rfl, hx17⟩
  have HX17 : Hid (Ext w8 w17) := hid (HX16.out.trans hx17)
  clear hx17
  go_wp2
  all_goals
    go_ret
    exact ⟨rfl, HXX.out.trans HX17.out⟩
end Go.Proofs.Ythplgldclilccaa

namespace Go.Proofs.Ythplgldclilccaa
open Go.RowKit

theorem clsP_take {p : PZ} {k : Nat} {t : Int × Mono} (h : p[k]? = some t) : clsP (p.take (k + 1)) = max (clsP (p.take k)) (classM t.2) := by
  rw [List.take_add_one, h]
  unfold clsP
  simp [List.foldl_append]
theorem clsP_range {p : PZ} (h : mayAll p) : 0 ≤ clsP p ∧ clsP p ≤ 200 :=
  ⟨foldl_max_le (fun t : Int × Mono => classM t.2) p 0, foldl_max_ub (fun t : Int × Mono => classM t.2) p 0 200 (by omega) (fun t ht => (class_range (h t ht)).2)⟩
theorem RTs.cell2 {w : World} {a : Option Addr} {n cap k : Nat} {p : PZ} {t : Int × Mono} (h : RTs (Old w) w (.slice a n cap) p) (ht : p[k]? = some t) :
    ∃ b off ao co, a = some ⟨b, off, none⟩ ∧ n ≤ cap ∧ cap ≤ 9223372036854775807 ∧ w.cell? ⟨b, off + k * 3 + 2, none⟩ = some (.slice ao t.2.length co) ∧ Pows (Old w) w (.slice ao t.2.length co) t.2 := by
  obtain ⟨b, off, vd, vo, rfl, -, hn1, hm1, hSb, h1, h2, h3, h4, h5⟩ := h.cellAt ht
  obtain ⟨ao, co, rfl⟩ := h5.form
  exact ⟨b, off, ao, co, rfl, hn1, hm1, h3, h5⟩

set_option maxRecDepth 100000 in
set_option maxHeartbeats 4000000 in
theorem rview_class (v : Value) (p : PZ) (w : World) (h : RTs (Old w) w v p) (hmay : mayAll p) :
    Calls Try.prog 37 #[v] w fun e w' => e = .returned (.int .i64 (clsP p)) ∧ Ext w w' := by
  have H := hid h
  have HM := hid hmay
  have hl := h.len_le
  obtain ⟨a, cap, rfl⟩ := h.form
  clear h hmay
  go_enter Try.func37, Try.ntmps37
  go_wp2
  go_loopw [3, 4] (fun d i wr => ∃ k : Nat, k ≤ p.length ∧ i = .int .i64 k ∧ d = .int .i64 (clsP (p.take k)) ∧ Ext w wr) (fun _ i _ => p.length - (intOf i).toNat)
  case atStart => exact ⟨0, Nat.zero_le _, rfl, rfl, Ext.refl _⟩
  case round =>
    obtain ⟨k, hk, rfl, rfl, hx⟩ := hrel
    have HX := hid hx
    obtain ⟨hd1, hd2⟩ := clsP_range (mayAll_take HM.out k)
    by_cases hlt : k < p.length
    · obtain ⟨t, ht⟩ := some_of_lt hlt
      obtain ⟨b, off, ao, co, rfl, hn1, hm1, h3, h5⟩ := H.out.cell2 ht
      have hmm := HM.out t (List.mem_of_getElem? ht)
      have HS := hid (clsP_take ht)
      obtain ⟨he1, he2⟩ := class_range hmm
      have g3 := Ext.cell hx h3
      have H5 := hid h5
      have C := fun (W : World) (hW : Ext w W) => rmono_class (S := Old w) _ t.2 W (H5.out.ext hW (fun _ h => h)) (lt_ext (fun _ h => h) hW)
      rw [plainM_yes hmm] at C
      have HC := hid C
      clear h3 h5 hx ht C hmm
      generalize clsP (p.take k) = d at *
      generalize classM t.2 = q at *
      go_wp2_with fail
      refine (HC.out wr HX.out).mono ?_
      rintro e w1 ⟨rfl, hx1⟩
      have k3 := hx1.cell g3
      have HX1 := hid (HX.out.trans hx1)
      clear hx1 g3
      by_cases hgt : d < q
      · go_wp2_with fail
        refine (HC.out w1 HX1.out).mono ?_
        rintro e w2 ⟨rfl, hx2⟩
        have HX2 := hid (HX1.out.trans hx2)
        clear hx2
        go_wp2
        go_roundw
        case rel => exact ⟨k + 1, by omega, by go_num, by rw [HS.out]; exact congrArg (Value.int .i64) (by omega), HX2.out⟩
        case measure => simp only [intOf]; omega
      · go_wp2
        go_roundw
        case rel => exact ⟨k + 1, by omega, by go_num, by rw [HS.out]; exact congrArg (Value.int .i64) (by omega), HX1.out⟩
        case measure => simp only [intOf]; omega
    · obtain rfl : k = p.length := by omega
      have HE : Hid (clsP (p.take p.length) = clsP p) := hid (by rw [List.take_length])
      clear hx
      go_wp2
      all_goals
        go_ret
        exact ⟨by rw [HE.out]; rfl, HX.out⟩

set_option maxRecDepth 100000 in
set_option maxHeartbeats 4000000 in
theorem rview_degree (v : Value) (p : PZ) (x : Int) (w : World) (h : RTs (Old w) w v p) (hmay : mayAll p) (hxb : -9223372036854775808 ≤ x ∧ x ≤ 9223372036854775807) :
    Calls Try.prog 38 #[v, .int .i64 x] w fun e w' => e = .returned (.int .i64 (degP p x)) ∧ Ext w w' := by
  have H := hid h
  have HM := hid hmay
  have HXB := hid hxb
  have hl := h.len_le
  obtain ⟨a, cap, rfl⟩ := h.form
  clear h hmay hxb
  go_enter Try.func38, Try.ntmps38
  go_wp2
  go_loopw [5, 6] (fun d i wr => ∃ k : Nat, k ≤ p.length ∧ i = .int .i64 k ∧ d = .int .i64 (degP (p.take k) x) ∧ Ext w wr) (fun _ i _ => p.length - (intOf i).toNat)
  case atStart => exact ⟨0, Nat.zero_le _, rfl, rfl, Ext.refl _⟩
  case round =>
    obtain ⟨k, hk, rfl, rfl, hx⟩ := hrel
    have HX := hid hx
    obtain ⟨hd1, hd2⟩ := degP_range (mayAll_take HM.out k) x
    by_cases hlt : k < p.length
    · obtain ⟨t, ht⟩ := some_of_lt hlt
      obtain ⟨b, off, ao, co, rfl, hn1, hm1, h3, h5⟩ := H.out.cell2 ht
      have hmm := HM.out t (List.mem_of_getElem? ht)
      have HS := hid (degP_take ht x)
      obtain ⟨he1, he2⟩ := ex_range hmm x
      have g3 := Ext.cell hx h3
      have H5 := hid h5
      have C := fun (W : World) (hW : Ext w W) => rmono_degree (S := Old w) _ t.2 x W (H5.out.ext hW (fun _ h => h)) (lt_ext (fun _ h => h) hW) HXB.out
      rw [plainM_yes hmm] at C
      have HC := hid C
      clear h3 h5 hx ht C hmm
      generalize degP (p.take k) x = d at *
      generalize ex t.2 x = q at *
      go_wp2_with fail
      refine (HC.out wr HX.out).mono ?_
      rintro e w1 ⟨rfl, hx1⟩
      have k3 := hx1.cell g3
      have HX1 := hid (HX.out.trans hx1)
      clear hx1 g3
      by_cases hgt : d < q
      · go_wp2_with fail
        refine (HC.out w1 HX1.out).mono ?_
        rintro e w2 ⟨rfl, hx2⟩
        have HX2 := hid (HX1.out.trans hx2)
        clear hx2
        go_wp2
        go_roundw
        case rel => exact ⟨k + 1, by omega, by go_num, by rw [HS.out]; exact congrArg (Value.int .i64) (by omega), HX2.out⟩
        case measure => simp only [intOf]; omega
      · go_wp2
        go_roundw
        case rel => exact ⟨k + 1, by omega, by go_num, by rw [HS.out]; exact congrArg (Value.int .i64) (by omega), HX1.out⟩
        case measure => simp only [intOf]; omega
    · obtain rfl : k = p.length := by omega
      have HE : Hid (degP (p.take p.length) x = degP p x) := hid (by rw [List.take_length])
      clear hx
      go_wp2
      all_goals
        go_ret
        exact ⟨by rw [HE.out]; rfl, HX.out⟩

theorem leadP_zero {p : PZ} (h : canP p) (h0 : leadP p = 0) : degP p (leadP p) = 0 := by rw [h0]; exact degP_zero h.may (by omega)

set_option maxRecDepth 100000 in
set_option maxHeartbeats 4000000 in
theorem rrank_of (v : Value) (p : PZ) (w : World) (h : RTs (Old w) w v p) (hcan : canP p) :
    Calls Try.prog 11 #[v] w fun e w' => e = .returned (RankV (rankP p)) ∧ Ext w w' := by
  have HK := hid (Ext.alloc (Ext.refl w) (.cells #[.int .i64 0, .int .i64 0] 30))
  have H := hid (RTs.on h HK.out)
  have HC := hid hcan
  have hcl := rview_class _ p _ H.out hcan.may
  rw [clsP_lead hcan] at hcl
  have HCL := hid hcl
  have hDeg := fun (W : World) (hW : Ext (w.alloc (.cells #[.int .i64 0, .int .i64 0] 30)) W) => rview_degree v p (leadP p) W (RTs.on H.out hW) hcan.may (by have := leadP_range hcan; omega)
  have HDEG := hid hDeg
  have HZ := hid (leadP_zero hcan)
  have er : rankP p = (leadP p, degP p (leadP p)) := rfl
  obtain ⟨hl1, hl2⟩ := leadP_range hcan
  obtain ⟨a, cap, rfl⟩ := h.form
  rw [er]
  clear h hcan hcl hDeg er
  generalize leadP p = c at *
  generalize degP p c = d at *
  go_enter Try.func11, Try.ntmps11
  go_wp2_with fail
  refine HCL.out.mono ?_
  rintro e w1 ⟨rfl, hx1⟩
  have HX1 := hid hx1
  by_cases hc : c = 0
  · subst hc
    have hd0 : d = 0 := HZ.out rfl
    subst hd0
    obtain ⟨c0, c1, f0, f1⟩ := new2 hx1
    have HE := hid (And.intro c0 c1)
    clear hx1
    go_wp2
    have hd := fun x y => two_set x y HE.out.1 HE.out.2
    refine bodyPost_ret (by simp [results, Try.results11, go_sem, (hd _ _).1, (hd _ _).2]; rfl) rfl ?_
    exact ⟨rfl, (HK.out.trans HX1.out).set2 (Nat.le_refl _) _ _⟩
  · have hb : (c == 0) = false := by rw [beq_eq_false_iff_ne]; exact hc
    clear hx1
    go_wp2_with fail
    refine (HDEG.out w1 HX1.out).mono ?_
    rintro e w2 ⟨rfl, hx2⟩
    obtain ⟨c0, c1, f0, f1⟩ := new2 (HX1.out.trans hx2)
    have HE := hid (And.intro c0 c1)
    have HX2 := hid (HX1.out.trans hx2)
    clear hx2
    go_wp2
    have hd := fun x y => two_set x y HE.out.1 HE.out.2
    refine bodyPost_ret (by simp [results, Try.results11, go_sem, (hd _ _).1, (hd _ _).2]; rfl) rfl ?_
    exact ⟨rfl, (HK.out.trans HX2.out).set2 (Nat.le_refl _) _ _⟩
end Go.Proofs.Ythplgldclilccaa

namespace Go.Proofs.Ythplgldclilccaa
open Go.RowKit

set_option maxRecDepth 100000 in
set_option maxHeartbeats 4000000 in
theorem rrank_less (a b : Int × Int) (w : World) (ha : inRank a) (hb : inRank b) :
    Calls Try.prog 12 #[RankV a, RankV b] w fun e w' => e = .returned (.bool (lessR a b)) ∧ Ext w w' := by
  obtain ⟨a1, a2⟩ := a
  obtain ⟨b1, b2⟩ := b
  unfold RankV
  simp only
  have HK := hid (Ext.alloc (Ext.alloc (Ext.refl w) (.cells #[.int .i64 a1, .int .i64 a2] 30)) (.cells #[.int .i64 b1, .int .i64 b2] 30))
  have ia1 : -9223372036854775808 ≤ a1 ∧ a1 ≤ 9223372036854775807 := ha.1
  have ia2 : -9223372036854775808 ≤ a2 ∧ a2 ≤ 9223372036854775807 := ha.2
  have ib1 : -9223372036854775808 ≤ b1 ∧ b1 ≤ 9223372036854775807 := hb.1
  have ib2 : -9223372036854775808 ≤ b2 ∧ b2 ≤ 9223372036854775807 := hb.2
  clear ha hb
  rcases Int.lt_trichotomy a1 b1 with h | h | h
  · have HF : Hid (lessR (a1, a2) (b1, b2) = true) := hid (decide_eq_true (.inl h))
    have hb1 : decide (a1 < b1) = true := decide_eq_true h
    go_enter Try.func12, Try.ntmps12
    go_wp2
    all_goals
      go_ret
      exact ⟨by rw [HF.out]; rfl, HK.out⟩
  · subst h
    by_cases h2 : a2 < b2
    · have HF : Hid (lessR (a1, a2) (a1, b2) = true) := hid (decide_eq_true (.inr ⟨rfl, h2⟩))
      go_enter Try.func12, Try.ntmps12
      go_wp2
      all_goals
        go_ret
        exact ⟨by rw [HF.out]; rfl, HK.out⟩
    · have HF : Hid (lessR (a1, a2) (a1, b2) = false) := hid (decide_eq_false (by
        rintro (e | ⟨e, e2⟩)
        · have e' : a1 < a1 := e
          omega
        · exact h2 e2))
      go_enter Try.func12, Try.ntmps12
      go_wp2
      all_goals
        go_ret
        exact ⟨by rw [HF.out]; rfl, HK.out⟩
  · have HF : Hid (lessR (a1, a2) (b1, b2) = false) := hid (decide_eq_false (by
      rintro (e | ⟨e, e2⟩)
      · have e' : a1 < b1 := e
        omega
      · have e' : a1 = b1 := e
        omega))
    have hb1 : (a1 == b1) = false := by rw [beq_eq_false_iff_ne]; omega
    go_enter Try.func12, Try.ntmps12
    go_wp2
    all_goals
      go_ret
      exact ⟨by rw [HF.out]; show Ending.returned (.bool (decide (a1 < b1))) = _; rw [decide_eq_false (by omega)], HK.out⟩

/-- slices of polynomials of the document -/
def RPs (S : Nat → Prop) (w : World) (v : Value) (l : List PZ) : Prop :=
  ∃ b off, SliceAt S v l.length b off ∧ ∀ j p, l[j]? = some p → ∃ vp, w.cell? ⟨b, off + j, none⟩ = some vp ∧ RTs S w vp p
section
variable {S S' : Nat → Prop} {w w' : World} {v : Value} {l : List PZ}
theorem RPs.to (h : RPs S w v l) (hk : Kept S w w') (hS : ∀ k, S k → S' k) : RPs S' w' v l := by
  obtain ⟨b, off, hs, hc⟩ := h
  refine ⟨b, off, hs.mono hS, fun j p hj => ?_⟩
  obtain ⟨vp, h1, h2⟩ := hc j p hj
  exact ⟨vp, hk.cell (hs.in (lt_of_some hj)) h1, h2.to hk hS⟩
theorem RPs.form (h : RPs S w v l) : ∃ a cap, v = .slice a l.length cap := by
  obtain ⟨b, off, ⟨a, cap, h1, _⟩, _⟩ := h
  exact ⟨a, cap, h1⟩
theorem RPs.len_le (h : RPs S w v l) : l.length ≤ 9223372036854775807 := by
  obtain ⟨b, off, ⟨a, cap, h1, h2, h3, _⟩, _⟩ := h
  unfold maxLen at h3
  omega
theorem RPs.cellAt {a : Option Addr} {n cap k : Nat} {p : PZ} (h : RPs S w (.slice a n cap) l) (ht : l[k]? = some p) :
    ∃ b off vp, a = some ⟨b, off, none⟩ ∧ n = l.length ∧ n ≤ cap ∧ cap ≤ 9223372036854775807 ∧ S b ∧ w.cell? ⟨b, off + k, none⟩ = some vp ∧ RTs S w vp p := by
  obtain ⟨b, off, ⟨a', cap', h1, h2, h3, h4, h5⟩, hc⟩ := h
  obtain ⟨rfl, rfl, rfl⟩ : a = a' ∧ n = l.length ∧ cap = cap' := by simpa using h1
  have hp : 0 < l.length := by have := lt_of_some ht; omega
  obtain ⟨vp, g1, g2⟩ := hc k p ht
  exact ⟨b, off, vp, h4 hp, rfl, h2, h3, h5 hp, g1, g2⟩
end
theorem RPs.on {w W : World} {v : Value} {l : List PZ} (h : RPs (Old w) w v l) (hx : Ext w W) : RPs (Old W) W v l := h.to (Kept.ext hx (fun _ h => h)) (old_lt hx)

end Go.Proofs.Ythplgldclilccaa

namespace Go.Proofs.Ythplgldclilccaa
open Go.RowKit

def bigTerm (t : RTerm) : Bool := decide (20 < t.c.mag.length) || decide (12 < t.m.length)
def greatT (n : Int) (ts : List RTerm) : Bool := ts.any bigTerm || decide (n < (ts.length : Int))

set_option maxRecDepth 100000 in
set_option maxHeartbeats 4000000 in
theorem rpoly_great {S : Nat → Prop} (v : Value) (ts : List RTerm) (n : Int) (w : World) (h : Terms S w v ts) (_hS : ∀ k, S k → k < w.heap.size) (hn : -9223372036854775808 ≤ n ∧ n ≤ 9223372036854775807) :
    Calls Try.prog 27 #[v, .int .i64 n] w fun e w' => e = .returned (.bool (greatT n ts)) ∧ Ext w w' := by
  have H := hid h
  have hl := h.len_le
  obtain ⟨hn1, hn2⟩ := hn
  obtain ⟨a, cap, rfl⟩ := h.form
  clear h
  go_enter Try.func27, Try.ntmps27
  go_wp2
  go_loopw [5] (fun i wr => ∃ k : Nat, k ≤ ts.length ∧ i = .int .i64 k ∧ Ext w wr ∧ Hid ((ts.take k).any bigTerm = false)) (fun i _ => ts.length - (intOf i).toNat)
  case atStart => exact ⟨0, Nat.zero_le _, rfl, Ext.refl _, hid rfl⟩
  case round =>
    obtain ⟨k, hk, rfl, hx, HM⟩ := hrel
    have HX := hid hx
    by_cases hlt : k < ts.length
    · obtain ⟨t, ht⟩ := some_of_lt hlt
      obtain ⟨b, off, vm, vo, rfl, -, hq1, hm1, hSb, h1, h2, h3, h4, h5⟩ := H.out.cellAt ht
      have HT : Hid (ts.take (k + 1) = ts.take k ++ [t]) := hid (by rw [List.take_add_one, ht]; rfl)
      have HQ := hid (List.mem_of_getElem? ht)
      have hl1 := h4.len_le
      have hl2 := h5.len_le
      have HBT : Hid (bigTerm t = (decide (20 < t.c.mag.length) || decide (12 < t.m.length))) := hid rfl
      have g1 := Ext.cell hx h1
      have g2 := Ext.cell hx h2
      have g3 := Ext.cell hx h3
      obtain ⟨am, cm, rfl⟩ := h4.form
      obtain ⟨ao, co, rfl⟩ := h5.form
      generalize t.c.mag.length = x at *
      generalize t.m.length = y at *
      clear hx ht h1 h2 h3 h4 h5
      by_cases hbig : 20 < x
      · have HF : Hid (greatT n ts = true) := hid (by
          unfold greatT
          rw [List.any_eq_true.2 ⟨t, HQ.out, by rw [HBT.out, decide_eq_true hbig]; rfl⟩]
          rfl)
        go_wp2
        all_goals
          go_ret
          exact ⟨by rw [HF.out]; rfl, HX.out⟩
      · by_cases hbig2 : 12 < y
        · have HF : Hid (greatT n ts = true) := hid (by
            unfold greatT
            rw [List.any_eq_true.2 ⟨t, HQ.out, by rw [HBT.out, decide_eq_true hbig2, Bool.or_true]⟩]
            rfl)
          go_wp2
          all_goals
            go_ret
            exact ⟨by rw [HF.out]; rfl, HX.out⟩
        · go_wp2
          go_roundw
          case rel => exact ⟨k + 1, by omega, by go_num, HX.out, hid (by rw [HT.out, List.any_append, HM.out]; simp [HBT.out]; omega)⟩
          case measure => simp only [intOf]; omega
    · obtain rfl : k = ts.length := by omega
      have HF : Hid (greatT n ts = decide (n < (ts.length : Int))) := hid (by
        have := HM.out
        rw [List.take_length] at this
        unfold greatT
        rw [this, Bool.false_or])
      clear hx
      go_wp2
      all_goals
        go_ret
        exact ⟨by rw [HF.out]; rfl, HX.out⟩

def greatL (ls : List (List RTerm)) : Bool := ls.any (greatT 12) || decide (8 < ls.length)

set_option maxRecDepth 100000 in
set_option maxHeartbeats 4000000 in
theorem law15_great {S : Nat → Prop} (v : Value) (ls : List (List RTerm)) (w : World) (h : Polys S w v ls) (hS : ∀ k, S k → k < w.heap.size) :
    Calls Try.prog 8 #[v] w fun e w' => e = .returned (.bool (greatL ls)) ∧ Ext w w' := by
  have H := hid h
  have hl := h.len_le
  obtain ⟨a, cap, rfl⟩ := h.form
  clear h
  go_enter Try.func8, Try.ntmps8
  go_wp2
  go_loopw [7] (fun i wr => ∃ k : Nat, k ≤ ls.length ∧ i = .int .i64 k ∧ Ext w wr ∧ Hid ((ls.take k).any (greatT 12) = false)) (fun i _ => ls.length - (intOf i).toNat)
  case atStart => exact ⟨0, Nat.zero_le _, rfl, Ext.refl _, hid rfl⟩
  case round =>
    obtain ⟨k, hk, rfl, hx, HM⟩ := hrel
    have HX := hid hx
    by_cases hlt : k < ls.length
    · obtain ⟨t, ht⟩ := some_of_lt hlt
      obtain ⟨b, off, vp, rfl, -, hq1, hm1, hSb, h1, h2⟩ := H.out.cellAt ht
      have HT : Hid (ls.take (k + 1) = ls.take k ++ [t]) := hid (by rw [List.take_add_one, ht]; rfl)
      have HQ := hid (List.mem_of_getElem? ht)
      have g1 := Ext.cell hx h1
      have C := rpoly_great (S := S) vp t 12 wr (h2.ext hx hS) (lt_ext hS hx) (by omega)
      obtain ⟨am, cm, rfl⟩ := h2.form
      generalize hr : greatT 12 t = r at *
      have HR := hid hr
      have HC := hid C
      clear hx ht h1 h2 C hr
      cases r with
      | true =>
        have HF : Hid (greatL ls = true) := hid (by
          unfold greatL
          rw [List.any_eq_true.2 ⟨t, HQ.out, HR.out⟩]
          rfl)
        go_wp2_with fail
        refine HC.out.mono ?_
        rintro e w1 ⟨rfl, hx1⟩
        have HX1 := hid (HX.out.trans hx1)
        clear hx1
        go_wp2
        all_goals
          go_ret
          exact ⟨by rw [HF.out]; rfl, HX1.out⟩
      | false =>
        go_wp2_with fail
        refine HC.out.mono ?_
        rintro e w1 ⟨rfl, hx1⟩
        have HX1 := hid (HX.out.trans hx1)
        clear hx1
        go_wp2
        go_roundw
        case rel => exact ⟨k + 1, by omega, by go_num, HX1.out, hid (by rw [HT.out, List.any_append, HM.out]; simp [HR.out])⟩
        case measure => simp only [intOf]; omega
    · obtain rfl : k = ls.length := by omega
      have HF : Hid (greatL ls = decide (8 < (ls.length : Int))) := hid (by
        have := HM.out
        rw [List.take_length] at this
        unfold greatL
        rw [this, Bool.false_or, decide_eq_decide]
        omega)
      clear hx
      go_wp2
      all_goals
        go_ret
        exact ⟨by rw [HF.out]; rfl, HX.out⟩

/-- what is not too great -/
theorem fit_of {ls : List (List RTerm)} (h : greatL ls = false) : ls.length ≤ 8 ∧ ∀ ts ∈ ls, ts.length ≤ 12 ∧ ∀ t ∈ ts, t.c.mag.length ≤ 20 ∧ t.m.length ≤ 12 := by
  unfold greatL at h
  rw [Bool.or_eq_false_iff] at h
  obtain ⟨h1, h2⟩ := h
  refine ⟨by simpa using h2, fun ts hts => ?_⟩
  have := (List.any_eq_false.1 h1) ts hts
  unfold greatT at this
  simp only [Bool.not_eq_true, Bool.or_eq_false_iff] at this
  obtain ⟨k1, k2⟩ := this
  refine ⟨?_, fun t ht => ?_⟩
  · rw [decide_eq_false_iff_not] at k2
    omega
  · have k3 := (List.any_eq_false.1 k1) t ht
    unfold bigTerm at k3
    simp at k3
    omega
end Go.Proofs.Ythplgldclilccaa

namespace Go.Proofs.Ythplgldclilccaa
open Go.RowKit

def CellsP (S : Nat → Prop) (w : World) (xs : List Value) (l : List PZ) : Prop := xs.length = l.length ∧ ∀ (j : Nat) (p : PZ), l[j]? = some p → ∃ vp, xs[j]? = some vp ∧ RTs S w vp p
theorem CellsP.nil (S : Nat → Prop) (w : World) : CellsP S w [] [] := ⟨rfl, fun j p h => by simp at h⟩
theorem CellsP.to {S S' : Nat → Prop} {w w' : World} {xs : List Value} {l : List PZ} (h : CellsP S w xs l) (hk : Kept S w w') (hS : ∀ k, S k → S' k) : CellsP S' w' xs l :=
  ⟨h.1, fun j p hj => by
    obtain ⟨vp, h1, h2⟩ := h.2 j p hj
    exact ⟨vp, h1, h2.to hk hS⟩⟩
theorem CellsP.snoc {S : Nat → Prop} {w : World} {xs : List Value} {l : List PZ} {v : Value} {p : PZ} (h : CellsP S w xs l) (hv : RTs S w v p) : CellsP S w (xs ++ [v]) (l ++ [p]) := by
  refine ⟨by simp [h.1], fun j q hj => ?_⟩
  by_cases hlt : j < l.length
  · rw [List.getElem?_append_left hlt] at hj
    rw [List.getElem?_append_left (by rw [h.1]; exact hlt)]
    exact h.2 j q hj
  · have hj2 := lt_of_some hj
    simp only [List.length_append, List.length_cons, List.length_nil] at hj2
    obtain rfl : j = l.length := by omega
    rw [List.getElem?_append_right (Nat.le_refl _), Nat.sub_self] at hj
    obtain rfl : p = q := by simpa using hj
    refine ⟨v, ?_, hv⟩
    rw [← h.1, List.getElem?_append_right (Nat.le_refl _), Nat.sub_self]
    rfl
theorem own_rps {S : Nat → Prop} {w : World} {base : Nat} {e : TypeId} {v : Value} {xs : List Value} {l : List PZ} (h : w.ownsRow base e 1 v l.length xs) (hc : CellsP S w xs l) (hB : ∀ k, base ≤ k → k < w.heap.size → S k) : RPs S w v l := by
  have hlt := h.lt
  rcases h.2 with ⟨rfl, h0⟩ | ⟨g, cap, cur, rfl, hg, hh, h1, h2, h3, h4⟩
  · obtain rfl : l = [] := List.length_eq_zero_iff.1 h0
    exact ⟨0, 0, ⟨none, 0, rfl, Nat.zero_le _, by decide, fun h => absurd h (Nat.lt_irrefl 0), fun h => absurd h (Nat.lt_irrefl 0)⟩, fun j t hj => by simp at hj⟩
  · refine ⟨g, 0, ⟨_, cap, rfl, h1, h2, fun _ => rfl, fun _ => hB g (hlt g rfl).1 (hlt g rfl).2⟩, fun j t hj => ?_⟩
    obtain ⟨vp, g1, g2⟩ := hc.2 j t hj
    have hb := lt_of_some hj
    refine ⟨vp, ?_, g2⟩
    rw [h.cellAt (0 + j) (by omega), Nat.zero_add]
    exact g1
theorem Try.infoP : (Try.prog.info? 33).map (fun i => (i.zero, i.size, i.bytes)) = some (some (.slice none 0 0), 1, 24) := by kernel_rfl

section
variable {S : Nat → Prop} {w w1 w2 : World} {o : Value} {e : TypeId} {size n : Nat} {xs : List Value}
theorem cellsP_ext {l : List PZ} (hS : ∀ k, S k → k < w.heap.size) (h0 : Ext w w1) (h : CellsP (Off S w w1 o) w1 xs l) (hx : Ext w1 w2) : CellsP (Off S w w2 o) w2 xs l :=
  h.to (Kept.ext hx (fun k h => plus_lt hS h0 k h.1)) (fun k h => ⟨plus_grow hx.size k h.1, h.2⟩)
/-- a polynomial that was made behind a slice -/
theorem rts_off {v : Value} {p : PZ} (hS : ∀ k, S k → k < w.heap.size) (h0 : Ext w w1) (ho : w1.ownsRow w.heap.size e size o n xs) (_hx : Ext w1 w2) (h : RTs (Plus S w1 w2) w2 v p) : RTs (Off S w w2 o) w2 v p :=
  h.to (Kept.refl _ _) (fun k hk => by
    rcases hk with hk | hk
    · refine ⟨.inl hk, fun e => ?_⟩
      have := (ho.lt k e.symm).1
      have := hS k hk
      omega
    · refine ⟨.inr ⟨Nat.le_trans h0.size hk.1, hk.2⟩, fun e => ?_⟩
      have := (ho.lt k e.symm).2
      have := hk.1
      omega)
theorem cellsP_grown {v3 : Value} {w3 : World} {l : List PZ} (hS : ∀ k, S k → k < w.heap.size) (hx : Ext w w2) (h : CellsP (Off S w w2 o) w2 xs l) (hg : w2.grownBy w3 o.ownBlock) (hb : v3.ownBlock = o.ownBlock ∨ v3.ownBlock = some (w2.heap.size + 1)) : CellsP (Off S w w3 v3) w3 xs l :=
  h.to (Kept.grown hg (fun k hk => ⟨plus_lt hS hx k hk.1, hk.2⟩)) (fun k hk => ⟨plus_grow hg.size k hk.1, off_still hS hx hk hb⟩)
end

/-- sizes that the document's numbers take -/
def fitT (ts : List RTerm) : Prop := tinyT ts ∧ ts.length ≤ 1000000
theorem szP_toP {ts : List RTerm} (hok : okT ts) (h : fitT ts) : szP (toP ts) := by
  refine ⟨by rw [toP_length]; exact Nat.le_trans h.2 (by decide), fun t ht => ?_⟩
  obtain ⟨u, hu, rfl⟩ := List.mem_map.1 ht
  exact szZ_of (hok u hu) (h.1 u hu)
theorem szP_take {p : PZ} (h : szP p) (k : Nat) : szP (p.take k) := ⟨Nat.le_trans (by rw [List.length_take]; exact Nat.min_le_right _ _) h.1, fun t ht => h.2 t (List.mem_of_mem_take ht)⟩
theorem addP_take {p : PZ} (h : canP p) (k : Nat) : addP [] (p.take k) = p.take k := normP_of_can (canP_sublist h (List.take_sublist _ _))
theorem plainP_yes {ts : List RTerm} (h : mayT ts = true) : plainP ts = toP ts := by unfold plainP; simp [h]
theorem plainP_no {ts : List RTerm} (h : mayT ts = false) : plainP ts = [] := by unfold plainP; simp [h]

set_option maxRecDepth 100000 in
set_option maxHeartbeats 8000000 in
theorem law15_plain {S : Nat → Prop} (v : Value) (ls : List (List RTerm)) (w : World) (h : Polys S w v ls) (hS : ∀ k, S k → k < w.heap.size) (hfit : ∀ ts ∈ ls, fitT ts) (hlen : ls.length ≤ 1000000) :
    Calls Try.prog 10 #[v] w fun e w' => ∃ v', e = .returned v' ∧ RPs (Plus S w w') w' v' (ls.map plainP) ∧ Ext w w' := by
  have H := hid h
  have HF := hid hfit
  have HL := hid hlen
  have hl := h.len_le
  obtain ⟨a, cap, rfl⟩ := h.form
  clear h hfit hlen
  go_enter Try.func10, Try.ntmps10
  go_wp2
  go_loopw [3, 7] (fun o i wr => ∃ k xs, k ≤ ls.length ∧ i = .int .i64 (k : Nat) ∧ Ext w wr ∧ Hid (wr.ownsRow w.heap.size 33 1 o k xs) ∧ Hid (CellsP (Off S w wr o) wr xs ((ls.take k).map plainP))) (fun _ i _ => ls.length - (intOf i).toNat)
  case atStart => exact ⟨0, [], Nat.zero_le _, rfl, Ext.refl _, hid (World.ownsRow_nil _ _ _ _), hid (CellsP.nil _ _)⟩
  case round =>
    obtain ⟨k, xs, hk, rfl, hx, HW, HXS⟩ := hrel
    have HX := hid hx
    by_cases hlt : k < ls.length
    · obtain ⟨t, ht⟩ := some_of_lt hlt
      obtain ⟨b, off, vp, rfl, -, hq1, hm1, hSb, h1, h2⟩ := H.out.cellAt ht
      have HT : Hid ((ls.take (k + 1)).map plainP = (ls.take k).map plainP ++ [plainP t]) := hid (by rw [List.take_add_one, ht, List.map_append]; rfl)
      have HFT := hid (HF.out t (List.mem_of_getElem? ht))
      have g1 := Ext.cell hx h1
      have C := rpoly_may (S := S) vp t wr (h2.ext hx hS) (lt_ext hS hx) HFT.out.1
      have HOK := hid h2.okT
      have H2 := hid h2
      obtain ⟨am, cm, rfl⟩ := h2.form
      generalize hr : mayT t = r at *
      have HR := hid hr
      have HC := hid C
      clear hx ht h1 h2 C hr
      cases r with
      | true =>
        have HPP := hid (plainP_yes HR.out)
        have HCAN := hid (mayT_can HR.out)
        go_wp2_with fail
        refine HC.out.mono ?_
        rintro e w1 ⟨rfl, hx1⟩
        have HX1 := hid (HX.out.trans hx1)
        have k1 := hx1.cell g1
        have HW1 := hid (own_ext HW.out hx1)
        have HXS1 := hid (cellsP_ext hS HX.out HXS.out hx1)
        have CO := hid (rpoly_of (S := S) _ t w1 (H2.out.ext HX1.out hS) (lt_ext hS HX1.out) HFT.out.1 HCAN.out.may (fun k _ => by rw [addP_take HCAN.out]; exact szP_take (szP_toP HOK.out HFT.out) k))
        clear hx1 g1
        go_wp2_with fail
        refine CO.out.mono ?_
        rintro e w2 ⟨v2, rfl, hp2, hx2⟩
        have HX2 := hid (HX1.out.trans hx2)
        have HW2 := hid (own_ext HW1.out hx2)
        have HXS2 := hid (cellsP_ext hS HX1.out HXS1.out hx2)
        have HP2 := hid (rts_off hS HX1.out HW1.out hx2 hp2)
        obtain ⟨a2, c2, rfl⟩ := hp2.form
        obtain ⟨n2, hn2⟩ : ∃ n, n = (normP (toP t)).length := ⟨_, rfl⟩
        rw [← hn2] at HP2 ⊢
        clear hx2 hp2 hn2
        go_wp2_with (at_builtin; refine wpList_append_new _ rfl (.tmp 15) (.tmp 21) 27 rfl w.heap.size 33 (.slice none 0 0) 1 24 Try.underlying27 Try.infoP rfl (by decide) _ k xs rfl HW2.out #[.slice a2 n2 c2] rfl (one_cell rfl) rfl (by have := HL.out; omega) (by decide) HX2.out.size ?_; intro v3 w3 hown hg hbk; have HW3 := hid hown; have HG3 := hid hg; have HBK := hid hbk; clear hown hg hbk)
        go_roundw
        case rel =>
          refine ⟨k + 1, xs ++ [.slice a2 n2 c2], by omega, by go_num, own_grown0 HX2.out HW2.out HG3.out, HW3, hid ?_⟩
          rw [HT.out, HPP.out, ← normP_of_can HCAN.out]
          exact cellsP_grown hS HX2.out (HXS2.out.snoc HP2.out) HG3.out HBK.out
        case measure => simp only [intOf]; omega
      | false =>
        have HPP := hid (plainP_no HR.out)
        go_wp2_with fail
        refine HC.out.mono ?_
        rintro e w1 ⟨rfl, hx1⟩
        have HX1 := hid (HX.out.trans hx1)
        have HW1 := hid (own_ext HW.out hx1)
        have HXS1 := hid (cellsP_ext hS HX.out HXS.out hx1)
        clear hx1
        go_wp2_with (at_builtin; refine wpList_append_new _ rfl (.tmp 23) (.tmp 24) 27 rfl w.heap.size 33 (.slice none 0 0) 1 24 Try.underlying27 Try.infoP rfl (by decide) _ k xs rfl HW1.out #[.slice none 0 0] rfl (one_cell rfl) rfl (by have := HL.out; omega) (by decide) HX1.out.size ?_; intro v3 w3 hown hg hbk; have HW3 := hid hown; have HG3 := hid hg; have HBK := hid hbk; clear hown hg hbk)
        go_roundw
        case rel =>
          refine ⟨k + 1, xs ++ [.slice none 0 0], by omega, by go_num, own_grown0 HX1.out HW1.out HG3.out, HW3, hid ?_⟩
          rw [HT.out, HPP.out]
          exact cellsP_grown hS HX1.out (HXS1.out.snoc (RTs.nilv _ _ _ _ (by omega))) HG3.out HBK.out
        case measure => simp only [intOf]; omega
    · obtain rfl : k = ls.length := by omega
      have HE : Hid (ls.take ls.length = ls) := hid (List.take_length)
      clear hx
      go_wp2
      go_ret
      refine ⟨_, rfl, ?_, HX.out⟩
      have hc := HXS.out
      rw [HE.out] at hc
      refine own_rps (by rw [List.length_map]; exact HW.out) (hc.to (Kept.refl _ _) (fun _ h => h.1)) (fun k h1 h2 => .inr ⟨h1, h2⟩)
theorem fit_T {ts : List RTerm} (h : ts.length ≤ 12 ∧ ∀ t ∈ ts, t.c.mag.length ≤ 20 ∧ t.m.length ≤ 12) : fitT ts ∧ smallT ts :=
  ⟨⟨fun t ht => Nat.le_trans (h.2 t ht).1 (by omega), Nat.le_trans h.1 (by omega)⟩, fun t ht => Nat.le_trans (h.2 t ht).1 (by omega)⟩
end Go.Proofs.Ythplgldclilccaa

namespace Go.Proofs.Ythplgldclilccaa
open Go.RowKit

theorem orderR_neg (a b : Int × Int) : orderR b a = -orderR a b := by
  rw [orderR_eq, orderR_eq]
  unfold lessR
  simp only [decide_eq_true_eq]
  split <;> split <;> (try omega) <;> (split <;> omega)
theorem orderR_zero {a b : Int × Int} : orderR a b = 0 ↔ a = b := by
  constructor
  · intro h
    rw [orderR_eq] at h
    unfold lessR at h
    simp only [decide_eq_true_eq] at h
    split at h
    · omega
    · split at h
      · omega
      · exact Prod.ext (by omega) (by omega)
  · rintro rfl
    unfold orderR
    simp
theorem lowerR_neg (a b : List (Int × Int)) : lowerR b a = -lowerR a b := by
  induction a generalizing b with
  | nil => cases b <;> rfl
  | cons x a ih =>
    cases b with
    | nil => rfl
    | cons y b =>
      simp only [lowerR]
      rw [orderR_neg x y]
      by_cases h : orderR x y = 0
      · rw [if_pos h, if_pos (by omega), ih]
      · rw [if_neg h, if_neg (by omega)]
theorem lowerR_self (a : List (Int × Int)) : lowerR a a = 0 := by
  have := lowerR_neg a a
  omega
theorem orderR_trans {a b c : Int × Int} (h1 : orderR a b ≤ 0) (h2 : orderR b c ≤ 0) : orderR a c ≤ 0 := by
  have k1 := (orderR_le a b).1 (by rw [orderR_neg]; omega)
  have k2 := (orderR_le b c).1 (by rw [orderR_neg]; omega)
  have k3 := (orderR_le a c).2 (by omega)
  rw [orderR_neg] at k3
  omega
theorem lowerR_trans (a b c : List (Int × Int)) (h1 : lowerR a b ≤ 0) (h2 : lowerR b c ≤ 0) : lowerR a c ≤ 0 := by
  induction a generalizing b c with
  | nil =>
    cases b with
    | nil => exact h2
    | cons y b => simp [lowerR] at h1
  | cons x a ih =>
    cases c with
    | nil => simp [lowerR]
    | cons z c =>
      cases b with
      | nil => simp [lowerR] at h2
      | cons y b =>
        simp only [lowerR] at *
        by_cases e1 : orderR x y = 0
        · rw [if_pos e1] at h1
          obtain rfl := orderR_zero.1 e1
          by_cases e2 : orderR x z = 0
          · rw [if_pos e2] at h2 ⊢
            exact ih b c h1 h2
          · rw [if_neg e2] at h2 ⊢
            exact h2
        · rw [if_neg e1] at h1
          by_cases e2 : orderR y z = 0
          · obtain rfl := orderR_zero.1 e2
            rw [if_neg e1]
            exact h1
          · rw [if_neg e2] at h2
            have h3 := orderR_trans h1 h2
            by_cases e3 : orderR x z = 0
            · exfalso
              obtain rfl := orderR_zero.1 e3
              rw [orderR_neg] at h2
              omega
            · rw [if_neg e3]
              exact h3
theorem lowerR_take (a : List (Int × Int)) (h : 0 < a.length) : lowerR a (a.take (a.length - 1)) = -1 := by
  induction a with
  | nil => simp at h
  | cons x a ih =>
    cases a with
    | nil => rfl
    | cons y a =>
      have e : (x :: y :: a).take ((x :: y :: a).length - 1) = x :: (y :: a).take ((y :: a).length - 1) := by simp
      rw [e]
      simp only [lowerR]
      rw [if_pos (orderR_zero.2 rfl)]
      exact ih (by simp)
theorem Polys.caps {S : Nat → Prop} {w : World} {a : Option Addr} {n cap : Nat} {ls : List (List RTerm)} (h : Polys S w (.slice a n cap) ls) : n ≤ cap ∧ cap ≤ 9223372036854775807 := by
  obtain ⟨b, off, ⟨a', cap', h1, h2, h3, _⟩, _⟩ := h
  obtain ⟨rfl, rfl, rfl⟩ : a = a' ∧ n = ls.length ∧ cap = cap' := by simpa using h1
  unfold maxLen at h3
  exact ⟨h2, by omega⟩
theorem Polys.take {S : Nat → Prop} {w : World} {a : Option Addr} {n cap k : Nat} {ls : List (List RTerm)} (h : Polys S w (.slice a n cap) ls) (hk : k ≤ n) : Polys S w (.slice a k cap) (ls.take k) := by
  obtain ⟨b, off, ⟨a', cap', h1, h2, h3, h4, h5⟩, hc⟩ := h
  obtain ⟨rfl, rfl, rfl⟩ : a = a' ∧ n = ls.length ∧ cap = cap' := by simpa using h1
  have hl : (ls.take k).length = k := by rw [List.length_take]; omega
  refine ⟨b, off, ⟨a, cap, by rw [hl], by omega, h3, fun h => h4 (by omega), fun h => h5 (by omega)⟩, fun j p hj => ?_⟩
  rw [List.getElem?_take] at hj
  split at hj
  · exact hc j p hj
  · cases hj

set_option maxRecDepth 100000 in
set_option maxHeartbeats 8000000 in
theorem law_orders (vl vm vn : Value) (ls ms ns : List (List RTerm)) (w : World) (hl : Polys (Old w) w vl ls) (hm : Polys (Old w) w vm ms) (hn : Polys (Old w) w vn ns) :
    Calls Try.prog 4 #[vl, vm, vn] w fun e w' => e = .returned (.bool true) ∧ Ext w w' := by
  have hnot : ∀ (x : Bool) (w : World), (Op.unary .not (.bool x)).run Try.prog w = .ok (.bool (!x)) w := fun _ _ => rfl
  have HL := hid hl
  have HM := hid hm
  have HN := hid hn
  obtain ⟨al, cl, rfl⟩ := hl.form
  obtain ⟨am, cm, rfl⟩ := hm.form
  obtain ⟨an, cn, rfl⟩ := hn.form
  have hll := hl.len_le
  have hlm := hm.len_le
  have hln := hn.len_le
  obtain ⟨nl, hnl⟩ : ∃ n, n = ls.length := ⟨_, rfl⟩
  obtain ⟨nm, hnm⟩ : ∃ n, n = ms.length := ⟨_, rfl⟩
  obtain ⟨nn, hnn⟩ : ∃ n, n = ns.length := ⟨_, rfl⟩
  rw [← hnl] at HL hll ⊢
  rw [← hnm] at HM hlm ⊢
  rw [← hnn] at HN hln ⊢
  have HNL := hid hnl
  have CG := hid (fun (W : World) (hW : Ext w W) => law15_great (S := Old _) _ ls W (HL.out.on hW) (fun _ h => h))
  have CGM := hid (fun (W : World) (hW : Ext w W) => law15_great (S := Old _) _ ms W (HM.out.on hW) (fun _ h => h))
  have CGN := hid (fun (W : World) (hW : Ext w W) => law15_great (S := Old _) _ ns W (HN.out.on hW) (fun _ h => h))
  clear hl hm hn hnl hnm hnn
  cases hg : greatL ls with
  | true =>
    simp only [hg] at CG
    have HCG := hid CG.out
    clear CG hg
    go_enter Try.func4, Try.ntmps4
    go_wp2_with fail
    with_reducible refine (HCG.out _ (Ext.refl w)).mono ?_
    rintro e w1 ⟨rfl, hx1⟩
    have HX1 := hid hx1
    clear hx1
    go_wp2_with fail
    with_reducible refine (law15_known w1).mono ?_
    rintro e w2 ⟨rfl, hx2⟩
    have HX2 := hid (HX1.out.trans hx2)
    clear hx2
    go_wp2
    all_goals
      go_ret
      exact ⟨rfl, HX2.out⟩
  | false =>
    simp only [hg] at CG
    have HCG := hid CG.out
    have HFL := hid (fit_of hg)
    clear CG hg
    cases hg : greatL ms with
    | true =>
      simp only [hg] at CGM
      have HCM := hid CGM.out
      clear CGM hg
      go_enter Try.func4, Try.ntmps4
      go_wp2_with fail
      with_reducible refine (HCG.out _ (Ext.refl w)).mono ?_
      rintro e w1 ⟨rfl, hx1⟩
      have HX1 := hid hx1
      clear hx1
      go_wp2_with fail
      with_reducible refine (HCM.out _ HX1.out).mono ?_
      rintro e w2 ⟨rfl, hx2⟩
      have HX2 := hid (HX1.out.trans hx2)
      clear hx2
      go_wp2_with fail
      with_reducible refine (law15_known w2).mono ?_
      rintro e w3 ⟨rfl, hx3⟩
      have HX3 := hid (HX2.out.trans hx3)
      clear hx3
      go_wp2
      all_goals
        go_ret
        exact ⟨rfl, HX3.out⟩
    | false =>
      simp only [hg] at CGM
      have HCM := hid CGM.out
      have HFM := hid (fit_of hg)
      clear CGM hg
      cases hg : greatL ns with
      | true =>
        simp only [hg] at CGN
        have HCN := hid CGN.out
        clear CGN hg
        go_enter Try.func4, Try.ntmps4
        go_wp2_with fail
        with_reducible refine (HCG.out _ (Ext.refl w)).mono ?_
        rintro e w1 ⟨rfl, hx1⟩
        have HX1 := hid hx1
        clear hx1
        go_wp2_with fail
        with_reducible refine (HCM.out _ HX1.out).mono ?_
        rintro e w2 ⟨rfl, hx2⟩
        have HX2 := hid (HX1.out.trans hx2)
        clear hx2
        go_wp2_with fail
        with_reducible refine (HCN.out _ HX2.out).mono ?_
        rintro e w3 ⟨rfl, hx3⟩
        have HX3 := hid (HX2.out.trans hx3)
        clear hx3
        go_wp2_with fail
        with_reducible refine (law15_known w3).mono ?_
        rintro e w4 ⟨rfl, hx4⟩
        have HX4 := hid (HX3.out.trans hx4)
        clear hx4
        go_wp2
        all_goals
          go_ret
          exact ⟨rfl, HX4.out⟩
      | false =>
        simp only [hg] at CGN
        have HCN := hid CGN.out
        have HFN := hid (fit_of hg)
        clear CGN hg
        have hsl : smallL ls := fun p hp => (fit_T (HFL.out.2 p hp)).2
        have hsm : smallL ms := fun p hp => (fit_T (HFM.out.2 p hp)).2
        have hsn : smallL ns := fun p hp => (fit_T (HFN.out.2 p hp)).2
        have k1 := lowerR_neg (ranksL ls) (ranksL ms)
        have k2 := lowerR_trans (ranksL ls) (ranksL ms) (ranksL ns)
        have k3 := lowerR_self (ranksL ls)
        obtain ⟨ra1, ra2⟩ := lowerR_range (ranksL ls) (ranksL ms)
        obtain ⟨rc1, rc2⟩ := lowerR_range (ranksL ms) (ranksL ns)
        obtain ⟨rd1, rd2⟩ := lowerR_range (ranksL ls) (ranksL ns)
        have K1 := hid (fun (W : World) (hW : Ext w W) => rank_lower (S := Old W) _ _ ls ms W (HL.out.on hW) (HM.out.on hW) (fun _ h => h) hsl hsm)
        have K2 := hid (fun (W : World) (hW : Ext w W) => rank_lower (S := Old W) _ _ ms ls W (HM.out.on hW) (HL.out.on hW) (fun _ h => h) hsm hsl)
        have K3 := hid (fun (W : World) (hW : Ext w W) => rank_lower (S := Old W) _ _ ms ns W (HM.out.on hW) (HN.out.on hW) (fun _ h => h) hsm hsn)
        have K4 := hid (fun (W : World) (hW : Ext w W) => rank_lower (S := Old W) _ _ ls ns W (HL.out.on hW) (HN.out.on hW) (fun _ h => h) hsl hsn)
        have K5 := hid (fun (W : World) (hW : Ext w W) => rank_lower (S := Old W) _ _ ls ls W (HL.out.on hW) (HL.out.on hW) (fun _ h => h) hsl hsl)
        unfold lowerL at K1 K2 K3 K4 K5
        simp only [k1, k3] at K2 K5
        have K6 := hid (fun (W : World) (hW : Ext w W) (h0 : 0 < nl) => rank_lower (S := Old W) _ _ ls (ls.take (nl - 1)) W (HL.out.on hW) ((HL.out.on hW).take (Nat.sub_le _ _)) (fun _ h => h) hsl (fun p hp => hsl p (List.mem_of_mem_take hp)))
        have hl6 : ∀ h0 : 0 < nl, lowerL ls (ls.take (nl - 1)) = -1 := fun h0 => by
          unfold lowerL
          have h1 := lowerR_take (ranksL ls) (by unfold ranksL; rw [List.length_map, ← HNL.out]; exact h0)
          rw [show (ranksL ls).length = nl by unfold ranksL; rw [List.length_map]; exact HNL.out.symm] at h1
          rw [← h1]
          congr 1
          unfold ranksL
          rw [List.map_take]
        have HL6 := hid hl6
        generalize lowerR (ranksL ls) (ranksL ms) = a at *
        generalize lowerR (ranksL ms) (ranksL ns) = c at *
        generalize lowerR (ranksL ls) (ranksL ns) = d at *
        have HK2 := hid k2
        clear k1 k2 k3 hl6 hsl hsm hsn
        have hcase : (a ≤ 0 ∧ c ≤ 0 ∧ d ≤ 0) ∨ (a ≤ 0 ∧ 0 < c) ∨ 0 < a := by
          rcases (show 0 < a ∨ (a ≤ 0 ∧ 0 < c) ∨ (a ≤ 0 ∧ c ≤ 0) by omega) with h | h | h
          · exact .inr (.inr h)
          · exact .inr (.inl h)
          · exact .inl ⟨h.1, h.2, HK2.out h.1 h.2⟩
        rcases hcase with ⟨ha, hc, hd⟩ | ⟨ha, hc⟩ | ha
        all_goals
          go_enter Try.func4, Try.ntmps4
          go_wp2_with fail
          with_reducible refine (HCG.out _ (Ext.refl w)).mono ?_
          rintro e w1 ⟨rfl, hx1⟩
          have HX1 := hid hx1
          clear hx1
          go_wp2_with fail
          with_reducible refine (HCM.out _ HX1.out).mono ?_
          rintro e w2 ⟨rfl, hx2⟩
          have HX2 := hid (HX1.out.trans hx2)
          clear hx2
          go_wp2_with fail
          with_reducible refine (HCN.out _ HX2.out).mono ?_
          rintro e w3 ⟨rfl, hx3⟩
          have HX3 := hid (HX2.out.trans hx3)
          clear hx3
          go_wp2_with fail
          with_reducible refine (K1.out _ HX3.out).mono ?_
          rintro e w4 ⟨rfl, hx4⟩
          have HX4 := hid (HX3.out.trans hx4)
          clear hx4
          go_wp2_with fail
          with_reducible refine (K2.out _ HX4.out).mono ?_
          rintro e w5 ⟨rfl, hx5⟩
          have HX5 := hid (HX4.out.trans hx5)
          clear hx5
          go_wp2_with fail
          with_reducible refine (K3.out _ HX5.out).mono ?_
          rintro e w6 ⟨rfl, hx6⟩
          have HX6 := hid (HX5.out.trans hx6)
          clear hx6
          go_wp2_with fail
          with_reducible refine (K4.out _ HX6.out).mono ?_
          rintro e w7 ⟨rfl, hx7⟩
          have HX7 := hid (HX6.out.trans hx7)
          clear hx7
          go_wp2_with fail
          with_reducible refine (K5.out _ HX7.out).mono ?_
          rintro e w8 ⟨rfl, hx8⟩
          have HX8 := hid (HX7.out.trans hx8)
          clear hx8
          have CT : ∀ W, Ext w W → (Prop) := fun _ _ => True
          clear CT
          have TAIL := hid (fun (W : World) (hW : Ext w W) => rank_sort (S := Old W) _ ls W (HL.out.on hW) (fun _ h => h) (fun p hp => ⟨fun t ht => Nat.le_trans ((HFL.out.2 p hp).2 t ht).1 (by decide), Nat.le_trans (HFL.out.2 p hp).1 (by decide)⟩) (Nat.le_trans HFL.out.1 (by decide)))
          by_cases h0 : nl = 0
          · have q0 : decide ((0 : Int) < (nl : Int)) = false := decide_eq_false (by omega)
            have q1 : decide (0 < nl) = false := decide_eq_false (by omega)
            have HX9 := HX8
            clear h0
            go_wp2_with fail
            with_reducible refine (TAIL.out _ HX9.out).mono ?_
            rintro e w10 ⟨v10, rfl, hp10, hx10⟩
            have HX10 := hid (HX9.out.trans hx10)
            have HP10 := hid (hp10.to (Kept.refl _ _) New.lt)
            have hls := hp10.len_le
            obtain ⟨sa, sc, rfl⟩ := hp10.form
            have HSO := hid (sortL_sorted rank_le.total (ls.filter okP))
            have HSM : Hid (smallL (sortR ls)) := hid (fun p hp => (fit_T (HFL.out.2 p (List.mem_filter.1 ((sortL_perm _).mem_iff.1 hp)).1)).2)
            obtain ⟨sn, hsn⟩ : ∃ n, n = (sortR ls).length := ⟨_, rfl⟩
            rw [← hsn] at HP10 hls ⊢
            have HSN := hid hsn
            clear hp10 hx10 hsn
            go_wp2
            go_loopw [12] (fun i wr => ∃ k : Nat, i = .int .i64 k ∧ 1 ≤ k ∧ k ≤ sn + 1 ∧ Ext w10 wr) (fun i _ => sn + 1 - (intOf i).toNat)
            case atStart => exact ⟨1, rfl, Nat.le_refl _, by omega, Ext.refl _⟩
            case round =>
              obtain ⟨k, rfl, hk1, hk2, hx⟩ := hrel
              have HX := hid hx
              by_cases hlt : k < sn
              · obtain ⟨kp, rfl⟩ : ∃ j, k = j + 1 := ⟨k - 1, by omega⟩
                obtain ⟨p, hp⟩ := some_of_lt (l := sortR ls) (j := kp) (by rw [← HSN.out]; omega)
                obtain ⟨q, hq⟩ := some_of_lt (l := sortR ls) (j := kp + 1) (by rw [← HSN.out]; omega)
                obtain ⟨r, hr⟩ := some_of_lt (l := sortR ls) (j := 0) (by rw [← HSN.out]; omega)
                have hpq : rankC p q ≤ 0 := by
                  have h1 := HSO.out.le_at hp hq (by omega)
                  unfold rankL rankC at h1
                  unfold rankC
                  have h2 := orderR_neg (rankP (plainP p)) (rankP (plainP q))
                  simp only [decide_eq_true_eq] at h1
                  omega
                have hrq : rankC r q ≤ 0 := by
                  have h1 := HSO.out.le_at hr hq (by omega)
                  unfold rankL rankC at h1
                  unfold rankC
                  have h2 := orderR_neg (rankP (plainP r)) (rankP (plainP q))
                  simp only [decide_eq_true_eq] at h1
                  omega
                have HPX := HP10.out.on hx
                obtain ⟨b1, o1, vp, hb1, -, hn1, hm1, hS1, h1, h2⟩ := HPX.cellAt hp
                obtain ⟨b2, o2, vq, hb2, -, -, -, hS2, h3, h4⟩ := HPX.cellAt hq
                obtain ⟨b3, o3, vr, hb3, -, -, -, hS3, h5, h6⟩ := HPX.cellAt hr
                subst hb1
                obtain ⟨rfl, rfl⟩ : b1 = b2 ∧ o1 = o2 := by simpa using hb2
                obtain ⟨rfl, rfl⟩ : b1 = b3 ∧ o1 = o3 := by simpa using hb3
                rw [Nat.add_zero] at h5
                have HCP := hid (fun Y : Later wr => rank_compare (S := Old wr) vp vq p q Y.w' (h2.ext Y.h (fun _ h => h)) (h4.ext Y.h (fun _ h => h)) (fun _ h => Nat.lt_of_lt_of_le h Y.h.size) (HSM.out p (List.mem_of_getElem? hp)) (HSM.out q (List.mem_of_getElem? hq)))
                have HCR := hid (fun Y : Later wr => rank_compare (S := Old wr) vr vq r q Y.w' (h6.ext Y.h (fun _ h => h)) (h4.ext Y.h (fun _ h => h)) (fun _ h => Nat.lt_of_lt_of_le h Y.h.size) (HSM.out r (List.mem_of_getElem? hr)) (HSM.out q (List.mem_of_getElem? hq)))
                obtain ⟨r1, r2⟩ := orderR_range (rankP (plainP p)) (rankP (plainP q))
                obtain ⟨r3, r4⟩ := orderR_range (rankP (plainP r)) (rankP (plainP q))
                unfold rankC at hpq hrq
                generalize orderR (rankP (plainP p)) (rankP (plainP q)) = c1 at *
                generalize orderR (rankP (plainP r)) (rankP (plainP q)) = c2 at *
                obtain ⟨ap, cp, rfl⟩ := h2.form
                obtain ⟨aq, cq, rfl⟩ := h4.form
                obtain ⟨ar, cr, rfl⟩ := h6.form
                have L1 := fun Y : Later wr => Y.h.cell h1
                have L2 := fun Y : Later wr => Y.h.cell h3
                have L3 := fun Y : Later wr => Y.h.cell h5
                have q1 : decide (0 < c1) = false := decide_eq_false (by omega)
                have q2 : decide (0 < c2) = false := decide_eq_false (by omega)
                have q3 : (kp : Int) + 1 < (sn : Int) := by omega
                have q4 : (kp : Int) < (sn : Int) := by omega
                have q5 : ((kp : Int) + 1).toNat = kp + 1 := by omega
                have q6 : (0 : Int) ≤ (kp : Int) + 1 := by omega
                clear h1 h2 h3 h4 h5 h6 hp hq hr HPX hpq hrq hx hb2 hb3
                go_wp2
                refine wp_region_later (by kernel_rfl) (by kernel_rfl) ?_
                repeat (go_big_quiet_step (first | (go_at_call_of 14 (Value.slice ap p.length cp); exact Later.done (HCP.out _)) | (go_at_call 14; exact Later.done (HCR.out _))))
                refine wpQuiet_nil ?_
                intro W2 hW2
                have HW2 := hid (HX.out.trans hW2)
                clear L1 L2 L3 hW2 q1 q2
                go_wp2
                go_roundw
                case rel => exact ⟨kp + 2, by go_num, by omega, by omega, HW2.out⟩
                case measure => simp only [intOf]; omega
              · have q1 : (sn : Int) ≤ (k : Int) := by omega
                clear hx
                go_wp2_with fail
                with_reducible refine (law15_known wr).mono ?_
                rintro e w11 ⟨rfl, hx11⟩
                have HX11 := hid (HX10.out.trans (HX.out.trans hx11))
                clear hx11
                go_wp2
                all_goals
                  go_ret
                  exact ⟨rfl, HX11.out⟩
          · have C6 := K6.out _ HX8.out (by omega)
            rw [HL6.out (by omega)] at C6
            have HC6 := hid C6
            have q0 : decide ((0 : Int) < (nl : Int)) = true := decide_eq_true (by omega)
            have q1 : decide (0 < nl) = true := decide_eq_true (by omega)
            have q2 : (0 : Int) ≤ (nl : Int) - 1 := by omega
            have q3 : ((nl : Int) - 1).toNat = nl - 1 := by omega
            have q4 : (1 : Int) ≤ (nl : Int) := by omega
            obtain ⟨hc1, hc2⟩ := HL.out.caps
            clear C6
            go_wp2_with fail
            with_reducible refine HC6.out.mono ?_
            rintro e w9 ⟨rfl, hx9⟩
            have HX9 := hid (HX8.out.trans hx9)
            clear hx9 q2 q3 q4 hc1 hc2
            go_wp2_with fail
            with_reducible refine (TAIL.out _ HX9.out).mono ?_
            rintro e w10 ⟨v10, rfl, hp10, hx10⟩
            have HX10 := hid (HX9.out.trans hx10)
            have HP10 := hid (hp10.to (Kept.refl _ _) New.lt)
            have hls := hp10.len_le
            obtain ⟨sa, sc, rfl⟩ := hp10.form
            have HSO := hid (sortL_sorted rank_le.total (ls.filter okP))
            have HSM : Hid (smallL (sortR ls)) := hid (fun p hp => (fit_T (HFL.out.2 p (List.mem_filter.1 ((sortL_perm _).mem_iff.1 hp)).1)).2)
            obtain ⟨sn, hsn⟩ : ∃ n, n = (sortR ls).length := ⟨_, rfl⟩
            rw [← hsn] at HP10 hls ⊢
            have HSN := hid hsn
            clear hp10 hx10 hsn
            go_wp2
            go_loopw [12] (fun i wr => ∃ k : Nat, i = .int .i64 k ∧ 1 ≤ k ∧ k ≤ sn + 1 ∧ Ext w10 wr) (fun i _ => sn + 1 - (intOf i).toNat)
            case atStart => exact ⟨1, rfl, Nat.le_refl _, by omega, Ext.refl _⟩
            case round =>
              obtain ⟨k, rfl, hk1, hk2, hx⟩ := hrel
              have HX := hid hx
              by_cases hlt : k < sn
              · obtain ⟨kp, rfl⟩ : ∃ j, k = j + 1 := ⟨k - 1, by omega⟩
                obtain ⟨p, hp⟩ := some_of_lt (l := sortR ls) (j := kp) (by rw [← HSN.out]; omega)
                obtain ⟨q, hq⟩ := some_of_lt (l := sortR ls) (j := kp + 1) (by rw [← HSN.out]; omega)
                obtain ⟨r, hr⟩ := some_of_lt (l := sortR ls) (j := 0) (by rw [← HSN.out]; omega)
                have hpq : rankC p q ≤ 0 := by
                  have h1 := HSO.out.le_at hp hq (by omega)
                  unfold rankL rankC at h1
                  unfold rankC
                  have h2 := orderR_neg (rankP (plainP p)) (rankP (plainP q))
                  simp only [decide_eq_true_eq] at h1
                  omega
                have hrq : rankC r q ≤ 0 := by
                  have h1 := HSO.out.le_at hr hq (by omega)
                  unfold rankL rankC at h1
                  unfold rankC
                  have h2 := orderR_neg (rankP (plainP r)) (rankP (plainP q))
                  simp only [decide_eq_true_eq] at h1
                  omega
                have HPX := HP10.out.on hx
                obtain ⟨b1, o1, vp, hb1, -, hn1, hm1, hS1, h1, h2⟩ := HPX.cellAt hp
                obtain ⟨b2, o2, vq, hb2, -, -, -, hS2, h3, h4⟩ := HPX.cellAt hq
                obtain ⟨b3, o3, vr, hb3, -, -, -, hS3, h5, h6⟩ := HPX.cellAt hr
                subst hb1
                obtain ⟨rfl, rfl⟩ : b1 = b2 ∧ o1 = o2 := by simpa using hb2
                obtain ⟨rfl, rfl⟩ : b1 = b3 ∧ o1 = o3 := by simpa using hb3
                rw [Nat.add_zero] at h5
                have HCP := hid (fun Y : Later wr => rank_compare (S := Old wr) vp vq p q Y.w' (h2.ext Y.h (fun _ h => h)) (h4.ext Y.h (fun _ h => h)) (fun _ h => Nat.lt_of_lt_of_le h Y.h.size) (HSM.out p (List.mem_of_getElem? hp)) (HSM.out q (List.mem_of_getElem? hq)))
                have HCR := hid (fun Y : Later wr => rank_compare (S := Old wr) vr vq r q Y.w' (h6.ext Y.h (fun _ h => h)) (h4.ext Y.h (fun _ h => h)) (fun _ h => Nat.lt_of_lt_of_le h Y.h.size) (HSM.out r (List.mem_of_getElem? hr)) (HSM.out q (List.mem_of_getElem? hq)))
                obtain ⟨r1, r2⟩ := orderR_range (rankP (plainP p)) (rankP (plainP q))
                obtain ⟨r3, r4⟩ := orderR_range (rankP (plainP r)) (rankP (plainP q))
                unfold rankC at hpq hrq
                generalize orderR (rankP (plainP p)) (rankP (plainP q)) = c1 at *
                generalize orderR (rankP (plainP r)) (rankP (plainP q)) = c2 at *
                obtain ⟨ap, cp, rfl⟩ := h2.form
                obtain ⟨aq, cq, rfl⟩ := h4.form
                obtain ⟨ar, cr, rfl⟩ := h6.form
                have L1 := fun Y : Later wr => Y.h.cell h1
                have L2 := fun Y : Later wr => Y.h.cell h3
                have L3 := fun Y : Later wr => Y.h.cell h5
                have q1 : decide (0 < c1) = false := decide_eq_false (by omega)
                have q2 : decide (0 < c2) = false := decide_eq_false (by omega)
                have q3 : (kp : Int) + 1 < (sn : Int) := by omega
                have q4 : (kp : Int) < (sn : Int) := by omega
                have q5 : ((kp : Int) + 1).toNat = kp + 1 := by omega
                have q6 : (0 : Int) ≤ (kp : Int) + 1 := by omega
                clear h1 h2 h3 h4 h5 h6 hp hq hr HPX hpq hrq hx hb2 hb3
                go_wp2
                refine wp_region_later (by kernel_rfl) (by kernel_rfl) ?_
                repeat (go_big_quiet_step (first | (go_at_call_of 14 (Value.slice ap p.length cp); exact Later.done (HCP.out _)) | (go_at_call 14; exact Later.done (HCR.out _))))
                refine wpQuiet_nil ?_
                intro W2 hW2
                have HW2 := hid (HX.out.trans hW2)
                clear L1 L2 L3 hW2 q1 q2
                go_wp2
                go_roundw
                case rel => exact ⟨kp + 2, by go_num, by omega, by omega, HW2.out⟩
                case measure => simp only [intOf]; omega
              · have q1 : (sn : Int) ≤ (k : Int) := by omega
                clear hx
                go_wp2_with fail
                with_reducible refine (law15_known wr).mono ?_
                rintro e w11 ⟨rfl, hx11⟩
                have HX11 := hid (HX10.out.trans (HX.out.trans hx11))
                clear hx11
                go_wp2
                all_goals
                  go_ret
                  exact ⟨rfl, HX11.out⟩
end Go.Proofs.Ythplgldclilccaa

namespace Go.Proofs.Ythplgldclilccaa
open Go.RowKit

set_option maxRecDepth 100000 in
theorem by_each {S : Nat → Prop} (vp vq : Value) (ps qs : List RTerm) (b : Nat) (w : World) (hc : w.cell? ⟨b, 0, none⟩ = some vp) (hp : Terms S w vp ps) (hq : Terms S w vq qs) (hS : ∀ k, S k → k < w.heap.size) (hrp : smallT ps) (hrq : smallT qs) :
    Calls Try.prog 41 #[vq, .pointer (some ⟨b, 0, none⟩)] w fun e w' => e = .returned (.bool (!reducedP (plainP ps) (plainP qs))) ∧ Ext w w' := by
  have hnot : ∀ (x : Bool) (w : World), (Op.unary .not (.bool x)).run Try.prog w = .ok (.bool (!x)) w := fun _ _ => rfl
  have HP := hid hp
  have HQ := hid hq
  have HRP := hid hrp
  have HRQ := hid hrq
  obtain ⟨ap, cp, rfl⟩ := hp.form
  obtain ⟨aq, cq, rfl⟩ := hq.form
  clear hp hq hrp hrq
  go_enter Try.func41, Try.ntmps41
  go_wp2_with fail
  refine (rank_reduced _ _ ps qs w HP.out HQ.out hS HRP.out HRQ.out).mono ?_
  rintro e w1 ⟨rfl, hx1⟩
  have HX1 := hid hx1
  clear hx1
  go_wp2
  all_goals
    go_ret
    exact ⟨rfl, HX1.out⟩

set_option maxRecDepth 100000 in
set_option maxHeartbeats 1000000 in
theorem by_index {S : Nat → Prop} (vp vl : Value) (ps : List RTerm) (ls : List (List RTerm)) (b : Nat) (w : World) (hc : w.cell? ⟨b, 0, none⟩ = some vp) (hp : Terms S w vp ps) (hl : Polys S w vl ls) (hS : ∀ k, S k → k < w.heap.size) (hrp : smallT ps) (hrl : smallL ls) :
    Calls Try.prog 78 #[vl, .func (.func 41) #[] #[.pointer (some ⟨b, 0, none⟩)]] w fun e w' => ∃ n : Int, e = .returned (.int .i64 n) ∧ -1 ≤ n ∧ n ≤ 9223372036854775807 ∧ (0 ≤ n ↔ byP (plainP ps) ls = false) ∧ Ext w w' := by
  have HC := hid hc
  have HP := hid hp
  have HL := hid hl
  have HRP := hid hrp
  have HRL := hid hrl
  have hle := hl.len_le
  obtain ⟨a, cap, rfl⟩ := hl.form
  clear hp hl hrp hrl hc
  go_enter Try.func78, Try.ntmps78
  go_wp2
  go_loopw [8] (fun i wr => ∃ k : Nat, k ≤ ls.length ∧ i = .int .i64 k ∧ Ext w wr ∧ byP (plainP ps) (ls.take k) = true) (fun i _ => ls.length - (intOf i).toNat)
  case atStart => exact ⟨0, Nat.zero_le _, rfl, Ext.refl _, rfl⟩
  case round =>
    obtain ⟨k, hk, rfl, hx, hm⟩ := hrel
    by_cases hlt : k < ls.length
    · obtain ⟨q, hq⟩ := some_of_lt hlt
      obtain ⟨bl, off, vq, rfl, -, hn1, hm1, hSb, h1, h2⟩ := HL.out.cellAt hq
      have HRQ := hid (HRL.out q (List.mem_of_getElem? hq))
      have g1 := Ext.cell hx h1
      have HX := hid hx
      have H2 := hid h2
      have HQ := hid hq
      have HM := hid hm
      have ht : ls.take (k + 1) = ls.take k ++ [q] := by rw [List.take_add_one, hq]; rfl
      have HT := hid ht
      obtain ⟨aq, cq, rfl⟩ := h2.form
      have hcl := by_each (S := S) vp (.slice aq q.length cq) ps q b wr (hx.cell HC.out) (HP.out.ext hx hS) (h2.ext hx hS) (lt_ext hS hx) HRP.out HRQ.out
      have HCL := hid hcl
      clear hcl h1 h2 hx hq hm ht
      go_wp2_with fail
      refine HCL.out.mono ?_
      rintro e w1 ⟨rfl, hx1⟩
      have HX1 := hid (HX.out.trans hx1)
      clear hx1
      cases hr : reducedP (plainP ps) (plainP q) with
      | true =>
        have HR := hid hr
        clear hr
        go_wp2
        go_roundw
        case rel => exact ⟨k + 1, by omega, by go_num, HX1.out, by rw [HT.out]; unfold byP at HM ⊢; rw [List.all_append, HM.out]; simp [HR.out]⟩
        case measure => simp only [intOf]; omega
      | false =>
        have HR := hid hr
        clear hr
        go_wp2
        go_ret
        refine ⟨(k : Int), rfl, by omega, by omega, ⟨fun _ => ?_, fun _ => by omega⟩, HX1.out⟩
        unfold byP
        rw [List.all_eq_false]
        exact ⟨q, List.mem_of_getElem? HQ.out, by rw [HR.out]; simp⟩
    · obtain rfl : k = ls.length := by omega
      have HX := hid hx
      rw [List.take_length] at hm
      have HM := hid hm
      clear hx hm
      go_wp2
      go_ret
      exact ⟨-1, rfl, by omega, by omega, by rw [HM.out]; simp, HX.out⟩

set_option maxRecDepth 100000 in
set_option maxHeartbeats 1000000 in
theorem by_contains {S : Nat → Prop} (vp vl : Value) (ps : List RTerm) (ls : List (List RTerm)) (b : Nat) (w : World) (hc : w.cell? ⟨b, 0, none⟩ = some vp) (hp : Terms S w vp ps) (hl : Polys S w vl ls) (hS : ∀ k, S k → k < w.heap.size) (hrp : smallT ps) (hrl : smallL ls) :
    Calls Try.prog 40 #[vl, .func (.func 41) #[] #[.pointer (some ⟨b, 0, none⟩)]] w fun e w' => e = .returned (.bool (!byP (plainP ps) ls)) ∧ Ext w w' := by
  have HI := hid (by_index vp vl ps ls b w hc hp hl hS hrp hrl)
  obtain ⟨a, cap, rfl⟩ := hl.form
  clear hc hp hl hrp hrl
  go_enter Try.func40, Try.ntmps40
  go_wp2_with fail
  refine HI.out.mono ?_
  rintro e w1 ⟨n, rfl, hn1, hn2, hn3, hx1⟩
  have HX1 := hid hx1
  have HN := hid hn3
  clear hx1 hn3
  by_cases hn : 0 ≤ n
  · have HF := hid (HN.out.1 hn)
    go_wp2
    go_ret
    exact ⟨by rw [HF.out]; rfl, HX1.out⟩
  · have HF : Hid (byP (plainP ps) ls = true) := by
      cases h : byP (plainP ps) ls with
      | true => exact hid rfl
      | false => exact absurd (HN.out.2 h) hn
    go_wp2
    go_ret
    exact ⟨by rw [HF.out]; show Ending.returned (.bool (decide (0 ≤ n))) = _; rw [decide_eq_false (by omega)]; rfl, HX1.out⟩

set_option maxRecDepth 100000 in
set_option maxHeartbeats 1000000 in
theorem rank_by {S : Nat → Prop} (vp vl : Value) (ps : List RTerm) (ls : List (List RTerm)) (w : World) (hp : Terms S w vp ps) (hl : Polys S w vl ls) (hS : ∀ k, S k → k < w.heap.size) (hrp : smallT ps) (hrl : smallL ls) :
    Calls Try.prog 17 #[vp, vl] w fun e w' => e = .returned (.bool (byP (plainP ps) ls)) ∧ Ext w w' := by
  have hnot : ∀ (x : Bool) (w : World), (Op.unary .not (.bool x)).run Try.prog w = .ok (.bool (!x)) w := fun _ _ => rfl
  have hmf : ∀ (fn : Fn) (first cap : Array Value) (w : World), (Instr.makeFunc fn first cap).run Try.prog w = .ok (.func fn first cap) w := fun _ _ _ _ => rfl
  have HP := hid hp
  have HL := hid hl
  have HRP := hid hrp
  have HRL := hid hrl
  obtain ⟨ap, cp, rfl⟩ := hp.form
  obtain ⟨al, cl, rfl⟩ := hl.form
  clear hp hl hrp hrl
  have HK := hid (Ext.alloc (Ext.refl w) (.cells #[.slice ap ps.length cp] 23))
  have HCC := hid (cell_new w #[.slice ap ps.length cp] 23 (b := w.heap.size) (i := 0) rfl rfl)
  have hcl := by_contains (S := S) (.slice ap ps.length cp) (.slice al ls.length cl) ps ls w.heap.size _ HCC.out (HP.out.ext HK.out hS) (HL.out.ext HK.out hS) (lt_ext hS HK.out) HRP.out HRL.out
  have HCL := hid hcl
  clear hcl
  go_enter Try.func17, Try.ntmps17
  go_wp2_with fail
  refine HCL.out.mono ?_
  rintro e w1 ⟨rfl, hx1⟩
  have HX1 := hid (HK.out.trans hx1)
  clear hx1
  go_wp2
  all_goals
    go_ret
    exact ⟨by simp, HX1.out⟩
end Go.Proofs.Ythplgldclilccaa

namespace Go.Proofs.Ythplgldclilccaa

theorem take_eq_succ {α : Type} {xs ys : List α} {k : Nat} {x : α} (h : xs.take k = ys.take k) (hx : xs[k]? = some x) (hy : ys[k]? = some x) : xs.take (k + 1) = ys.take (k + 1) := by
  rw [List.take_add_one, List.take_add_one, h, hx, hy]
theorem ne_of_at {α : Type} {xs ys : List α} {k : Nat} {x y : α} (hx : xs[k]? = some x) (hy : ys[k]? = some y) (h : x ≠ y) : xs ≠ ys := by
  rintro rfl
  rw [hx] at hy
  exact h (Option.some.inj hy)
end Go.Proofs.Ythplgldclilccaa
