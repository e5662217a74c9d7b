/- ViewBack holds: for every polynomial and every whole number the law answers true, and its arguments read as they did. No condition. -/
import Derived.Test.YthplgldclilccaaGreatSet8
namespace Go.Proofs.YthplgldclilccaaGreat
open Go.RowKit Go.Sort

section
variable {α : Type} [Inhabited α] {pc : α → PCell} {w : World} {b o : Nat} {cf : α → α → Int} {le : α → α → Bool}

theorem insertion_p' {cap l : Nat} {za zb : Int} {cur : List α} (P X T : List α) (W : World) (hc : CmpP 47 pc cf w b) (hcl : CmpLe cf le) (hcur : cur = P ++ X ++ T) (hl : l = cur.length) (hza : za = P.length) (hzb : zb = P.length + X.length) (h : SortAt (encP pc) 1 w b o cur W) (hcap : l ≤ cap) (hcap2 : l ≤ 1000000000000) :
    Calls Tryz.prog 129 #[.slice (some ⟨b, o, none⟩) l cap, .int .i64 za, .int .i64 zb, .func (.func 47) #[] #[]] W
      fun e w' => e = .returned (.tuple #[]) ∧ SortAt (encP pc) 1 w b o (P ++ sortL le X ++ T) w' := by
  subst hcur hl hza
  obtain rfl : zb = ((P.length + X.length : Nat) : Int) := by rw [hzb]; omega
  exact insertion_p cap P X T W hc hcl h hcap hcap2
theorem sym_merge_p' (hc : CmpP 47 pc cf w b) (hcl : CmpLe cf le) {cap l : Nat} (hcap2 : l ≤ 1000000000000) {za zm ze : Int} {cur : List α} (P A B T : List α) (W : World) (hA0 : 0 < A.length) (hB0 : 0 < B.length) (hA : SortedL le A) (hB : SortedL le B) (hcur : cur = P ++ A ++ B ++ T) (hl : l = cur.length) (hza : za = P.length) (hzm : zm = P.length + A.length) (hze : ze = P.length + A.length + B.length)
    (h : SortAt (encP pc) 1 w b o cur W) (hcap : l ≤ cap) :
      Calls Tryz.prog 130 #[.slice (some ⟨b, o, none⟩) l cap, .int .i64 za, .int .i64 zm, .int .i64 ze, .func (.func 47) #[] #[]] W
        fun r w' => r = .returned (.tuple #[]) ∧ SortAt (encP pc) 1 w b o (P ++ mergeL le A B ++ T) w' := by
  subst hza
  obtain rfl : zm = ((P.length + A.length : Nat) : Int) := by rw [hzm]; omega
  obtain rfl : ze = ((P.length + A.length + B.length : Nat) : Int) := by rw [hze]; omega
  exact sym_merge_p hc hcl _ P A B T cur W l _ _ _ (Nat.lt_succ_self _) hA0 hB0 hA hB hcur hl rfl rfl rfl h hcap hcap2

set_option maxRecDepth 100000 in
set_option maxHeartbeats 8000000 in
theorem stable_p {cap n : Nat} (L : List α) (W : World) (hc : CmpP 47 pc cf w b) (hcl : CmpLe cf le) (hl : n = L.length) (h : SortAt (encP pc) 1 w b o L W) (hcap : n ≤ cap) (hcap2 : n ≤ 1000000000000) :
    Calls Tryz.prog 98 #[.slice (some ⟨b, o, none⟩) n cap, .int .i64 n, .func (.func 47) #[] #[]] W
      fun e w' => e = .returned (.tuple #[]) ∧ SortAt (encP pc) 1 w b o (sortL le L) w' := by
  have H := hid h
  have HC := hid hc
  have HL := hid hcl
  have HN := hid hl
  clear h hc hcl hl
  go_enter Tryz.func98, Tryz.ntmps98
  go_wp2
  go_loopw [7, 8] (fun va vb wr => ∃ (a c : Nat) (S O R : List α), va = .int .i64 a ∧ vb = .int .i64 c ∧ a ≤ n ∧ Hid (c = a + 20) ∧ c ≤ n + 20 ∧ Hid (a = O.length) ∧ Hid (L = O ++ R) ∧ Hid (Full le 20 S O) ∧ SortAt (encP pc) 1 w b o (S ++ R) wr) (fun va vb _ => n - (intOf va).toNat)
  case atStart => exact ⟨0, 20, [], [], L, rfl, rfl, by omega, rfl, by omega, rfl, rfl, .nil, H.out⟩
  case round =>
    obtain ⟨a, c, S, O, R, rfl, rfl, han, HCA, hcn, HA, HLL, HF, hs⟩ := hrel
    have HS := hid hs
    clear hs
    have hn : n = O.length + R.length := by have := HN.out; rw [HLL.out] at this; simpa using this
    have hcl : n = (S ++ R).length := by rw [hn]; simp [HF.out.len]
    have HCL := hid hcl
    have HNN := hid hn
    clear hn hcl
    by_cases hlt : c ≤ n
    · obtain ⟨X, R', hX, hX20⟩ : ∃ X R', R = X ++ R' ∧ X.length = 20 := ⟨R.take 20, R.drop 20, (List.take_append_drop _ _).symm, by have := HNN.out; have := HA.out; have := HCA.out; rw [List.length_take]; omega⟩
      subst hX
      have HX := hid hX20
      have C := hid (insertion_p' (cap := cap) (l := n) (za := (a : Int)) (zb := (c : Int)) S X R' wr HC.out HL.out (by simp) HCL.out (by rw [HF.out.len]; have := HA.out; omega) (by rw [HF.out.len]; have := HA.out; have := HCA.out; omega) HS.out hcap hcap2)
      clear hX20
      go_wp2_with fail
      with_reducible refine C.out.mono ?_
      rintro e w2 ⟨rfl, hs2⟩
      have HS2 := hid hs2
      clear hs2
      go_wp2
      go_roundw
      case rel =>
        refine ⟨c, c + 20, S ++ sortL le X, O ++ X, R', rfl, by go_num, hlt, rfl, by omega, ?_, ?_, ?_, ?_⟩
        · show _ = _; have := HA.out; have := HX.out; have := HCA.out; simp; omega
        · show _ = _; rw [HLL.out]; simp
        · exact HF.out.snoc HX.out
        · exact HS2.out
      case measure => have := HCA.out; simp only [intOf]; omega
    · have C := hid (insertion_p' (cap := cap) (l := n) (za := (a : Int)) (zb := (n : Int)) S R [] wr HC.out HL.out (by simp) HCL.out (by rw [HF.out.len]; have := HA.out; omega) (by rw [HF.out.len]; have := HNN.out; omega) HS.out hcap hcap2)
      go_wp2_with fail
      with_reducible refine C.out.mono ?_
      rintro e w2 ⟨rfl, hs2⟩
      have HS2 := hid hs2
      have HB : Hid (Blk le 20 (S ++ sortL le R) L) := hid (by
        rw [HLL.out]
        exact HF.out.blk (.of_sort (by have := HNN.out; have := HA.out; have := HCA.out; omega)))
      clear hs2
      go_wp2
      go_loopw [6, 7, 8, 9] (fun vs va vb vm wr => ∃ (s : Nat) (za zb : Int) (cur : List α), vs = .int .i64 s ∧ va = .int .i64 za ∧ vb = .int .i64 zb ∧ 20 ≤ s ∧ s ≤ n + n + 20 ∧ Hid (Blk le s cur L) ∧ SortAt (encP pc) 1 w b o cur wr) (fun vs _ _ _ _ => n - (intOf vs).toNat)
      case atStart => exact ⟨20, a, c, _, rfl, rfl, rfl, by omega, by omega, HB, by have := HS2.out; simpa using this⟩
      case round =>
        clear HB HS2 HS HF HLL HCL HNN HCA HA hlt hcn han
        obtain ⟨s, za, zb, cur, rfl, rfl, rfl, hs20, hsn, HB, hs⟩ := hrel
        have HS := hid hs
        clear hs
        by_cases hlt : s < n
        · have HCN : Hid (n = cur.length) := hid (by rw [HN.out, HB.out.len])
          go_wp2
          go_loopw [7, 8] (fun va vb wr => ∃ (a c : Nat) (S O R O2 : List α), va = .int .i64 a ∧ vb = .int .i64 c ∧ a ≤ n ∧ Hid (c = a + (s + s)) ∧ c ≤ n + s + s ∧ Hid (a = O.length) ∧ Hid (L = O ++ O2) ∧ Hid (Full le (s + s) S O) ∧ Hid (Blk le s R O2) ∧ SortAt (encP pc) 1 w b o (S ++ R) wr) (fun va vb _ => n - (intOf va).toNat)
          case atStart => exact ⟨0, s + s, [], [], cur, L, rfl, by congr 1; omega, by omega, by show _ = _; omega, by omega, rfl, rfl, .nil, HB, HS.out⟩
          case round =>
            clear HCN HS HB
            obtain ⟨a, c, S, O, R, O2, rfl, rfl, han, HCA, hcn, HA, HLL, HF, HB, hs⟩ := hrel
            have HS := hid hs
            clear hs
            have hn : n = O.length + O2.length := by have := HN.out; rw [HLL.out] at this; simpa using this
            have hcl : n = (S ++ R).length := by rw [hn]; simp [HF.out.len, HB.out.len]
            have HCL := hid hcl
            have HNN := hid hn
            clear hn hcl
            by_cases hlt : c ≤ n
            · obtain ⟨X, Y, R', O', hR, hO, hX, hY, hB⟩ := HB.out.two (by omega) (by rw [HB.out.len]; have := HNN.out; have := HA.out; have := HCA.out; omega)
              have HX := hid (And.intro hX hY)
              have HO := hid hO
              have HB2 := hid hB
              have C := hid (sym_merge_p' HC.out HL.out (cap := cap) (l := n) hcap2 (za := (a : Int)) (zm := (a : Int) + (s : Int)) (ze := (c : Int)) (cur := S ++ R) S (sortL le X) (sortL le Y) R' wr (by rw [sortL_len]; omega) (by rw [sortL_len]; omega) (sortL_sorted HL.out.total X) (sortL_sorted HL.out.total Y) (by rw [hR]; simp) HCL.out (by rw [HF.out.len]; have := HA.out; omega) (by rw [HF.out.len, sortL_len]; have := HA.out; omega) (by rw [HF.out.len, sortL_len, sortL_len]; have := HA.out; have := HCA.out; omega) HS.out hcap)
              clear hR hO hX hY hB
              go_wp2_with fail
              with_reducible refine C.out.mono ?_
              rintro e w2 ⟨rfl, hs2⟩
              have HS2 := hid hs2
              clear hs2
              go_wp2
              go_roundw
              case rel =>
                refine ⟨c, c + (s + s), S ++ sortL le (X ++ Y), O ++ (X ++ Y), R', O', rfl, by congr 1; omega, hlt, rfl, by omega, ?_, ?_, ?_, HB2, ?_⟩
                · show _ = _; have := HA.out; have := HX.out; have := HCA.out; simp; omega
                · show _ = _; rw [HLL.out, HO.out]; simp
                · exact HF.out.snoc (by have := HX.out; simp; omega)
                · rw [sortL_append HL.out.total]
                  exact HS2.out
              case measure => have := HCA.out; simp only [intOf]; omega
            · by_cases hm : a + s < n
              · obtain ⟨X, Y, hR, hO, hX, hY⟩ := HB.out.part (by omega) (by rw [HB.out.len]; have := HNN.out; have := HA.out; omega) (by rw [HB.out.len]; have := HNN.out; have := HA.out; have := HCA.out; omega)
                have C := hid (sym_merge_p' HC.out HL.out (cap := cap) (l := n) hcap2 (za := (a : Int)) (zm := (a : Int) + (s : Int)) (ze := (n : Int)) (cur := S ++ R) S (sortL le X) (sortL le Y) [] wr (by rw [sortL_len]; omega) (by rw [sortL_len]; omega) (sortL_sorted HL.out.total X) (sortL_sorted HL.out.total Y) (by rw [hR]; simp) HCL.out (by rw [HF.out.len]; have := HA.out; omega) (by rw [HF.out.len, sortL_len]; have := HA.out; omega) (by rw [HF.out.len, sortL_len, sortL_len]; have h1 := HNN.out; rw [hO] at h1; simp at h1; omega) HS.out hcap)
                have HBB : Hid (Blk le (s + s) (S ++ mergeL le (sortL le X) (sortL le Y)) L) := hid (by
                  rw [HLL.out, hO, ← sortL_append HL.out.total]
                  refine HF.out.blk (.of_sort ?_)
                  have h1 := HNN.out
                  have h2 := HA.out
                  have h3 := HCA.out
                  rw [hO] at h1
                  omega)
                clear hR hO hX hY
                have q1 : (a : Int) + (s : Int) < (n : Int) := by omega
                go_wp2_with fail
                with_reducible refine C.out.mono ?_
                rintro e w2 ⟨rfl, hs2⟩
                have HS2 := hid hs2
                clear hs2
                go_wp2
                go_roundw
                case rel => exact ⟨s + s, _, _, _, by congr 1; omega, rfl, rfl, by omega, by omega, HBB, by have := HS2.out; simpa using this⟩
                case measure => simp only [intOf]; omega
              · have HBB : Hid (Blk le (s + s) (S ++ R) L) := hid (by
                  rw [HB.out.one (by rw [HB.out.len]; have := HNN.out; have := HA.out; omega), HLL.out]
                  refine HF.out.blk (.of_sort ?_)
                  have h1 := HNN.out
                  have h2 := HA.out
                  omega)
                have q1 : (n : Int) ≤ (a : Int) + (s : Int) := by omega
                go_wp2
                go_roundw
                case rel => exact ⟨s + s, _, _, _, by congr 1; omega, rfl, rfl, by omega, by omega, HBB, HS.out⟩
                case measure => simp only [intOf]; omega
        · have HF : Hid (SortAt (encP pc) 1 w b o (sortL le L) wr) := hid (by
            have := HB.out.one (by rw [HB.out.len, ← HN.out]; omega)
            rw [← this]
            exact HS.out)
          go_wp2
          go_end0
          exact ⟨rfl, HF.out⟩

set_option maxRecDepth 100000 in
theorem sort_p {cap n : Nat} (L : List α) (W : World) (hc : CmpP 47 pc cf w b) (hcl : CmpLe cf le) (hl : n = L.length) (h : SortAt (encP pc) 1 w b o L W) (hcap : n ≤ cap) (hcap2 : n ≤ 1000000000000) :
    Calls Tryz.prog 50 #[.slice (some ⟨b, o, none⟩) n cap, .func (.func 47) #[] #[]] W
      fun e w' => e = .returned (.tuple #[]) ∧ SortAt (encP pc) 1 w b o (sortL le L) w' := by
  have C := hid (stable_p L W hc hcl hl h hcap hcap2)
  clear hc hcl hl h
  go_enter Tryz.func50, Tryz.ntmps50
  go_wp2_with fail
  with_reducible refine C.out.mono ?_
  rintro e w2 ⟨rfl, hs2⟩
  have HS2 := hid hs2
  clear hs2
  go_wp2
  go_end0
  exact ⟨rfl, HS2.out⟩
end
end Go.Proofs.YthplgldclilccaaGreat

namespace Go.Proofs.YthplgldclilccaaGreat
open Go.RowKit Go.Sort

/-- the cells of a slice of polynomials -/
def CellsL (S : Nat → Prop) (w : World) (xs : List Value) (l : List (List RTerm)) : Prop := xs.length = l.length ∧ ∀ (j : Nat) (p : List RTerm), l[j]? = some p → ∃ vp, xs[j]? = some vp ∧ Terms S w vp p
theorem CellsL.nil (S : Nat → Prop) (w : World) : CellsL S w [] [] := ⟨rfl, fun j p h => by simp at h⟩
theorem CellsL.to {S S' : Nat → Prop} {w w' : World} {xs : List Value} {l : List (List RTerm)} (h : CellsL S w xs l) (hk : Kept S w w') (hS : ∀ k, S k → S' k) : CellsL S' w' xs l :=
  ⟨h.1, fun j p hj => by
    obtain ⟨vp, h1, h2⟩ := h.2 j p hj
    exact ⟨vp, h1, h2.to hk hS⟩⟩
theorem CellsL.snoc {S : Nat → Prop} {w : World} {xs : List Value} {l : List (List RTerm)} {v : Value} {p : List RTerm} (h : CellsL S w xs l) (hv : Terms S w v p) : CellsL S w (xs ++ [v]) (l ++ [p]) := by
  refine ⟨by simp [h.1], fun j q hj => ?_⟩
  by_cases hlt : j < l.length
  · rw [List.getElem?_append_left hlt] at hj
    rw [List.getElem?_append_left (by rw [h.1]; exact hlt)]
    exact h.2 j q hj
  · have hj2 := lt_of_some hj
    simp only [List.length_append, List.length_cons, List.length_nil] at hj2
    obtain rfl : j = l.length := by omega
    rw [List.getElem?_append_right (Nat.le_refl _), Nat.sub_self] at hj
    obtain rfl : p = q := by simpa using hj
    refine ⟨v, ?_, hv⟩
    rw [← h.1, List.getElem?_append_right (Nat.le_refl _), Nat.sub_self]
    rfl
theorem Polys.nilv (S : Nat → Prop) (w : World) (a : Option Addr) (cap : Nat) (h : cap ≤ 9223372036854775807) : Polys S w (.slice a 0 cap) [] :=
  ⟨0, 0, ⟨a, cap, rfl, Nat.zero_le _, h, fun h => absurd h (Nat.lt_irrefl 0), fun h => absurd h (Nat.lt_irrefl 0)⟩, fun j t hj => by simp at hj⟩
theorem own_polys {S : Nat → Prop} {w : World} {base : Nat} {e : TypeId} {v : Value} {xs : List Value} {l : List (List RTerm)} (h : w.ownsRow base e 1 v l.length xs) (hc : CellsL S w xs l) (hB : ∀ k, base ≤ k → k < w.heap.size → S k) : Polys S w v l := by
  have hlt := h.lt
  rcases h.2 with ⟨rfl, h0⟩ | ⟨g, cap, cur, rfl, hg, hh, h1, h2, h3, h4⟩
  · obtain rfl : l = [] := List.length_eq_zero_iff.1 h0
    exact Polys.nilv _ _ _ _ (by decide)
  · refine ⟨g, 0, ⟨_, cap, rfl, h1, h2, fun _ => rfl, fun _ => hB g (hlt g rfl).1 (hlt g rfl).2⟩, fun j t hj => ?_⟩
    obtain ⟨vp, g1, g2⟩ := hc.2 j t hj
    have hb := lt_of_some hj
    refine ⟨vp, ?_, g2⟩
    rw [h.cellAt (0 + j) (by omega), Nat.zero_add]
    exact g1
theorem Tryz.infoPoly : (Tryz.prog.info? 26).map (fun i => (i.zero, i.size, i.bytes)) = some (some (.slice none 0 0), 1, 24) := by kernel_rfl
theorem one_cellV {u : Value} (h : u.oneCell' = true) : ∀ y ∈ (#[u] : Array Value).toList, y.oneCell' = true := by
  intro y hy
  simp at hy
  rw [hy]; exact h
section
variable {w w1 w2 : World} {o : Value} {e : TypeId} {size n : Nat} {xs : List Value}
theorem cellsL_ext {l : List (List RTerm)} (h : CellsL (NewOff w w1 o) w1 xs l) (hx : Ext w1 w2) : CellsL (NewOff w w2 o) w2 xs l :=
  h.to (Kept.ext hx (fun _ h => h.1.2)) (fun _ h => ⟨⟨h.1.1, Nat.lt_of_lt_of_le h.1.2 hx.size⟩, h.2⟩)
theorem terms_off {v : Value} {p : List RTerm} (h0 : Ext w w1) (ho : w1.ownsRow w.heap.size e size o n xs) (h : Terms (New w1 w2) w2 v p) : Terms (NewOff w w2 o) w2 v p :=
  h.to (Kept.refl _ _) (fun k hk => ⟨⟨Nat.le_trans h0.size hk.1, hk.2⟩, fun e => by
    have := (ho.lt k e.symm).2
    have := hk.1
    omega⟩)
theorem cellsL_grown {v3 : Value} {w3 : World} {l : List (List RTerm)} {B : Nat} (h : CellsL (NewOff w w2 o) w2 xs l) (hg : w2.grownBy w3 o.ownBlock) (hb : v3.ownBlock = o.ownBlock ∨ v3.ownBlock = some B) (hB : w2.heap.size ≤ B) : CellsL (NewOff w w3 v3) w3 xs l :=
  h.to (Kept.grown hg (fun _ h => ⟨h.1.2, h.2⟩)) (fun k hk => ⟨⟨hk.1.1, Nat.lt_of_lt_of_le hk.1.2 hg.size⟩, by
    rcases hb with e | e
    · rw [e]; exact hk.2
    · rw [e]
      intro e2
      have e3 : k = B := Option.some.inj e2
      have := hk.1.2
      omega⟩)
end

def okP (p : List RTerm) : Bool := decide (0 < p.length) && mayT p
/-- how polynomials are sorted: by rising ranks -/
def rankC (p q : List RTerm) : Int := orderR (rankP (plainP p)) (rankP (plainP q))
def rankL (p q : List RTerm) : Bool := decide (0 ≤ rankC q p)
def sortR (l : List (List RTerm)) : List (List RTerm) := sortL rankL (l.filter okP)

/-- a polynomial whose parts lie in a world -/
structure PolyIn (S : Nat → Prop) (w : World) where
  t : List RTerm
  c : PCell
  h : Terms S w (.slice c.a c.n c.c) t
  small : smallT t
instance (S : Nat → Prop) (w : World) : Inhabited (PolyIn S w) := ⟨⟨[], ⟨none, 0, 0⟩, Terms.nilv _ _ _ _ (by decide), fun t ht => by simp at ht⟩⟩
section
variable {S : Nat → Prop} {w : World}
theorem cells_polys {xs : List Value} {ls : List (List RTerm)} (h : CellsL S w xs ls) (hs : smallL ls) : ∃ d : List (PolyIn S w), d.map (·.t) = ls ∧ xs = d.map (fun x => .slice x.c.a x.c.n x.c.c) := by
  obtain ⟨hl, hc⟩ := h
  induction ls generalizing xs with
  | nil => exact ⟨[], rfl, by simpa using List.length_eq_zero_iff.1 hl⟩
  | cons p r ih =>
    cases xs with
    | nil => simp at hl
    | cons v ys =>
      obtain ⟨vp, h1, h2⟩ := hc 0 p rfl
      obtain rfl : v = vp := by simpa using h1
      obtain ⟨d, hd1, hd2⟩ := ih (fun q hq => hs q (by simp [hq])) (xs := ys) (by simpa using hl) (fun j q hj => hc (j + 1) q (by simpa using hj))
      obtain ⟨a, c, rfl⟩ := h2.form
      exact ⟨⟨p, ⟨a, p.length, c⟩, h2, hs p (by simp)⟩ :: d, by simp [hd1], by simp [hd2]⟩
theorem own_sortAtP {base g n cap : Nat} {e : TypeId} {xs : List Value} {d : List (PolyIn S w)} (h : w.ownsRow base e 1 (.slice (some ⟨g, 0, none⟩) n cap) n xs) (hx : xs = d.map (fun x => .slice x.c.a x.c.n x.c.c)) (hn : n = d.length) : SortAt (encP (fun x : PolyIn S w => x.c)) 1 w g 0 d w ∧ n ≤ cap ∧ cap ≤ maxLen := by
  obtain ⟨hl, hh⟩ := h
  rcases hh with ⟨h1, _⟩ | ⟨g', cap', cur, h1, h2, h3, h4, h5, h6, h7⟩
  · simp at h1
  · obtain ⟨rfl, rfl⟩ : g = g' ∧ cap = cap' := by simpa using h1
    refine ⟨⟨grown_refl _ _, ?_, (Array.getElem?_eq_some_iff.1 h3).1⟩, h4, h5⟩
    intro j hj
    rw [size_flatK, Nat.mul_one] at hj
    have hj3 : j < d.length := by simpa using hj
    obtain ⟨x, hxd⟩ := some_of_lt hj3
    rw [Nat.zero_add]
    have hjn : j < n * 1 := by omega
    have hcell : w.cell? ⟨g, j, none⟩ = xs[j]? ∧ w.frozen? ⟨g, j, none⟩ = false := by
      unfold World.cell? World.frozen?
      simp only [h3]
      rw [← h7, List.getElem?_take, if_pos hjn]
      simp
    refine ⟨?_, hcell.2⟩
    rw [hcell.1, hx, get_flatK _ _ _ _ (by rw [Nat.mul_one]; exact hj), Nat.div_one, Nat.mod_one, arr_at hxd]
    simp [hxd]
end
theorem orderR_range (a b : Int × Int) : -1 ≤ orderR a b ∧ orderR a b ≤ 1 := by
  rw [orderR_eq]
  split
  · omega
  · split <;> omega
theorem orderR_le (a b : Int × Int) : 0 ≤ orderR b a ↔ (a.1 < b.1 ∨ a.1 = b.1 ∧ a.2 ≤ b.2) := by
  rw [orderR_eq]
  unfold lessR
  simp only [decide_eq_true_eq]
  split
  · omega
  · split <;> omega
theorem rank_le : CmpLe rankC rankL := by
  refine ⟨fun x y => orderR_range _ _, fun x y => rfl, ⟨fun a b c h1 h2 => ?_, fun a b => ?_⟩⟩
  · unfold rankL rankC at *
    simp only [decide_eq_true_eq, orderR_le] at *
    omega
  · unfold rankL rankC
    simp only [decide_eq_true_eq, orderR_le]
    omega
theorem polyIn_le {S : Nat → Prop} {w : World} : CmpLe (fun x y : PolyIn S w => rankC x.t y.t) (fun x y => rankL x.t y.t) :=
  ⟨fun _x _y => rank_le.range _ _, fun _x _y => rank_le.eq _ _, ⟨fun _a _b _c h1 h2 => rank_le.total.trans _ _ _ h1 h2, fun _a _b => rank_le.total.total _ _⟩⟩
theorem map_merge {α β : Type} {le : β → β → Bool} (f : α → β) (xs ys : List α) : (mergeL (fun x y => le (f x) (f y)) xs ys).map f = mergeL le (xs.map f) (ys.map f) := by
  induction xs generalizing ys with
  | nil => rw [mergeL_nil]; exact (mergeL_nil _).symm
  | cons x xs ihx =>
    induction ys with
    | nil => rw [mergeL_right]; exact (mergeL_right _).symm
    | cons y ys ihy =>
      cases h : le (f x) (f y) with
      | true =>
        rw [mergeL_pos (le := fun x y => le (f x) (f y)) xs ys h, List.map_cons, ihx, List.map_cons, List.map_cons, mergeL_pos _ _ h]
      | false =>
        rw [mergeL_neg (le := fun x y => le (f x) (f y)) xs ys h, List.map_cons, ihy, List.map_cons, List.map_cons, mergeL_neg _ _ h]
theorem map_sort {α β : Type} {le : β → β → Bool} (f : α → β) (xs : List α) : (sortL (fun x y => le (f x) (f y)) xs).map f = sortL le (xs.map f) := by
  induction xs with
  | nil => rfl
  | cons x xs ih =>
    show (mergeL _ [x] (sortL _ xs)).map f = mergeL le [f x] (sortL le (xs.map f))
    rw [map_merge, ih]
    rfl

theorem compare_cmp {S : Nat → Prop} {w : World} {g : Nat} (hS : ∀ k, S k → k < w.heap.size ∧ k ≠ g) : CmpP 47 (fun x : PolyIn S w => x.c) (fun x y => rankC x.t y.t) w g := by
  intro W hW x y
  have hk : Kept S w W := Kept.grown hW (fun k hk => ⟨(hS k hk).1, fun e => (hS k hk).2 (Option.some.inj e)⟩)
  have hSW : ∀ k, S k → k < W.heap.size := fun k hk => Nat.lt_of_lt_of_le (hS k hk).1 hW.size
  exact rank_compare _ _ x.t y.t W (x.h.to hk (fun _ h => h)) (y.h.to hk (fun _ h => h)) hSW x.small y.small

/-- the sort of no polynomials -/
theorem sort_none_p (A : Option Addr) (c : Nat) (W : World) : Calls Tryz.prog 50 #[.slice A 0 c, .func (.func 47) #[] #[]] W fun e w' => e = .returned (.tuple #[]) ∧ W = w' := by
  have hi : ∀ W, Calls Tryz.prog 129 #[.slice A 0 c, .int .i64 0, .int .i64 0, .func (.func 47) #[] #[]] W fun e w' => e = .returned (.tuple #[]) ∧ W = w' := by
    intro W
    go_enter Tryz.func129, Tryz.ntmps129
    go_wp2
    refine wp_loop_rounds 1 ?_
    rw [rounds_succ]
    go_wp2
    go_end0
    exact ⟨rfl, rfl⟩
  have HI := hid hi
  have hs : Calls Tryz.prog 98 #[.slice A 0 c, .int .i64 0, .func (.func 47) #[] #[]] W fun e w' => e = .returned (.tuple #[]) ∧ W = w' := by
    clear hi
    go_enter Tryz.func98, Tryz.ntmps98
    go_wp2
    refine wp_loop_rounds 1 ?_
    rw [rounds_succ]
    go_wp2_with fail
    with_reducible refine (HI.out _).mono ?_
    rintro e w1 ⟨rfl, rfl⟩
    go_wp2
    refine wp_loop_rounds 1 ?_
    rw [rounds_succ]
    go_wp2
    go_end0
    exact ⟨rfl, rfl⟩
  have HS := hid hs
  clear hi hs
  go_enter Tryz.func50, Tryz.ntmps50
  go_wp2_with fail
  with_reducible refine HS.out.mono ?_
  rintro e w1 ⟨rfl, rfl⟩
  go_wp2
  go_end0
  exact ⟨rfl, rfl⟩

set_option maxRecDepth 100000 in
set_option maxHeartbeats 4000000 in
theorem rank_sort {S : Nat → Prop} (v : Value) (ls : List (List RTerm)) (w : World) (h : Polys S w v ls) (hS : ∀ k, S k → k < w.heap.size) (hr : ∀ p ∈ ls, (∀ t ∈ p, t.c.mag.length ≤ 10000000000) ∧ p.length ≤ 1000000000) (hn : ls.length ≤ 1000000000) :
    Calls Tryz.prog 11 #[v] w fun e w' => ∃ v', e = .returned v' ∧ Polys (New w w') w' v' (sortR ls) ∧ Ext w w' := by
  have H := hid h
  have HR := hid hr
  have hll := h.len_le
  obtain ⟨A, c, rfl⟩ := h.form
  obtain ⟨n, hnn⟩ : ∃ n, n = ls.length := ⟨_, rfl⟩
  rw [← hnn] at H hll ⊢
  have HN := hid hnn
  have HN2 : Hid (n ≤ 1000000000) := hid (by rw [hnn]; exact hn)
  clear h hr hnn hn
  go_enter Tryz.func11, Tryz.ntmps11
  go_wp2
  go_loopw [2, 4, 5, 6, 9] (fun o _ _ _ i wr => ∃ (k m : Nat) (xs : List Value), k ≤ n ∧ i = .int .i64 k ∧ Ext w wr ∧ Hid (m = ((ls.take k).filter okP).length) ∧ Hid (wr.ownsRow w.heap.size 26 1 o m xs) ∧ Hid (CellsL (NewOff w wr o) wr xs ((ls.take k).filter okP))) (fun _ _ _ _ i _ => n - (intOf i).toNat)
  case atStart => exact ⟨0, 0, [], Nat.zero_le _, rfl, Ext.refl _, rfl, World.ownsRow_nil _ _ _ _, CellsL.nil _ _⟩
  case round =>
    obtain ⟨k, m, xs, hk, rfl, hx, HM, HW, HY⟩ := hrel
    have HX := hid hx
    by_cases hlt : k < n
    · obtain ⟨p, hp⟩ := some_of_lt (l := ls) (j := k) (by rw [← HN.out]; exact hlt)
      obtain ⟨bl, off, vp, rfl, -, hn1, hm1, hSb, h1, h2⟩ := (H.out.ext hx hS).cellAt hp
      have HT : Hid ((ls.take (k + 1)).filter okP = (ls.take k).filter okP ++ (if okP p then [p] else [])) := hid (by
        rw [List.take_add_one, hp, List.filter_append]
        congr 1
        cases h : okP p <;> simp [h])
      have HRP := hid (HR.out p (List.mem_of_getElem? hp))
      have H2 := hid h2
      have HMK : Hid (m ≤ 1000000000) := hid (by
        rw [HM.out]
        have h3 := List.length_filter_le okP (ls.take k)
        have h4 := HN2.out
        rw [List.length_take] at h3
        omega)
      have hlp := h2.len_le
      obtain ⟨ap, cp, rfl⟩ := h2.form
      have C := poly_may (S := S) (.slice ap p.length cp) p wr h2 (lt_ext hS hx) (fun t ht => Nat.le_trans (HRP.out.1 t ht) (by decide))
      have CD := fun (hm : mayT p = true) (W : World) (hW : Ext w W) (h : Terms S W (.slice ap p.length cp) p) => poly_add (S := S) (.slice ap p.length cp) (.slice none 0 0) p [] W 10000000000 h (Terms.nilv _ _ _ _ (by decide)) (lt_ext hS hW) hm rfl HRP.out.1 (fun t ht => by simp at ht) (Nat.le_refl _) (by have := HRP.out.2; simp; omega)
      obtain ⟨np, hnp⟩ : ∃ m, m = p.length := ⟨_, rfl⟩
      rw [← hnp] at h1 hlp C CD H2
      have HNP := hid hnp
      have HC := hid C
      have HCD := hid CD
      clear h2 hp hx C CD hnp
      by_cases h0 : np = 0
      · have HF : Hid (okP p = false) := hid (by unfold okP; rw [← HNP.out, h0]; rfl)
        subst h0
        go_wp2
        go_roundw
        case rel =>
          refine ⟨k + 1, m, xs, by omega, by go_num, HX.out, ?_, HW, ?_⟩
          · show _ = _; rw [HT.out, HF.out]; simpa using HM.out
          · show CellsL _ _ _ _; rw [HT.out, HF.out]; simpa using HY.out
        case measure => simp only [intOf]; omega
      · have q0 : (0 : Int) < (np : Int) := by omega
        cases hm : mayT p with
        | false =>
          have HF : Hid (okP p = false) := hid (by unfold okP; rw [hm]; simp)
          rw [hm] at HC
          go_wp2_with fail
          with_reducible refine HC.out.mono ?_
          rintro e w2 ⟨rfl, hx2⟩
          have HX2 := hid hx2
          clear hx2
          go_wp2
          go_roundw
          case rel =>
            refine ⟨k + 1, m, xs, by omega, by go_num, HX.out.trans HX2.out, ?_, own_ext HW.out HX2.out, ?_⟩
            · show _ = _; rw [HT.out, HF.out]; simpa using HM.out
            · show CellsL _ _ _ _; rw [HT.out, HF.out]; simpa using cellsL_ext HY.out HX2.out
          case measure => simp only [intOf]; omega
        | true =>
          have HF : Hid (okP p = true) := hid (by unfold okP; rw [hm, ← HNP.out]; simp; omega)
          have HPN : Hid (ofP (normP (toP p ++ toP [])) = p) := hid (by
            rw [show toP [] = [] from rfl, List.append_nil, normP_of_can (mayT_can hm)]
            exact mayT_of H2.out.okT hm)
          rw [hm] at HC
          have HCE := hid (HCD.out hm)
          clear hm HCD
          go_wp2_with fail
          with_reducible refine HC.out.mono ?_
          rintro e w2 ⟨rfl, hx2⟩
          have HX2 := hid hx2
          clear hx2
          go_wp2_with fail
          with_reducible refine (HCE.out w2 (HX.out.trans HX2.out) (H2.out.ext HX2.out (lt_ext hS HX.out))).mono ?_
          rintro e w3 ⟨v3, rfl, hp3, hx3⟩
          have HW3 := hid (own_ext HW.out (HX2.out.trans hx3))
          have HY3 := hid (cellsL_ext HY.out (HX2.out.trans hx3))
          rw [HPN.out] at hp3
          have HP3 := hid (terms_off (HX.out.trans HX2.out) (own_ext HW.out HX2.out) hp3)
          have HX3 := hid (HX.out.trans (HX2.out.trans hx3))
          obtain ⟨a3, c3, rfl⟩ := hp3.form
          rw [← HNP.out] at HP3 ⊢
          clear hp3 hx3
          go_wp2_with (at_builtin; refine wpList_append_new _ rfl (.tmp 25) (.tmp 27) 22 rfl w.heap.size 26 (.slice none 0 0) 1 24 Tryz.underlying22 Tryz.infoPoly rfl (by decide) _ m xs rfl HW3.out #[.slice a3 np c3] rfl (one_cellV rfl) rfl HMK.out (by decide) HX3.out.size ?_; intro v4 w4 hown hg hbk; have HW4 := hid hown; have HG4 := hid hg; have HBK := hid hbk; clear hown hg hbk)
          go_roundw
          case rel =>
            refine ⟨k + 1, m + 1, xs ++ (#[.slice a3 np c3] : Array Value).toList, by omega, by go_num, own_grown0 HX3.out HW3.out HG4.out, ?_, HW4.out, ?_⟩
            · show _ = _; rw [HT.out, HF.out]; simpa using HM.out
            · show CellsL _ _ _ _
              rw [HT.out, HF.out]
              exact cellsL_grown (HY3.out.snoc HP3.out) HG4.out HBK.out (Nat.le_succ _)
          case measure => simp only [intOf]; omega
    · obtain rfl : k = n := by omega
      have hcells : CellsL (NewOff w wr u2) wr xs (ls.filter okP) := by
        have := HY.out
        rwa [List.take_of_length_le (by rw [← HN.out]; exact Nat.le_refl _)] at this
      have hm : m = (ls.filter okP).length := by
        have := HM.out
        rwa [List.take_of_length_le (by rw [← HN.out]; exact Nat.le_refl _)] at this
      have HMN : Hid (m ≤ 1000000000) := hid (by
        have h1 := List.length_filter_le okP ls
        have h2 := HN2.out
        have h3 := HN.out
        omega)
      have hsm : smallL (ls.filter okP) := fun p hp t ht => Nat.le_trans ((HR.out p (List.mem_filter.1 hp).1).1 t ht) (by decide)
      have HCE := hid hcells
      obtain ⟨d, hd1, hd2⟩ := cells_polys hcells hsm
      have hown := HW.out
      rcases hown.2 with ⟨rfl, h0⟩ | ⟨g, hg', cur, rfl, hg, hgg, hnc, hcm, hsz, hcur⟩
      · have HE : Hid (sortR ls = []) := hid (by
          unfold sortR
          rw [List.length_eq_zero_iff.1 (show (ls.filter okP).length = 0 by omega)]
          rfl)
        clear hcells hm hsm hd1 hd2 hown h0 hx
        go_wp2_with fail
        with_reducible refine (sort_none_p _ _ _).mono ?_
        rintro e w2 ⟨rfl, rfl⟩
        go_wp2
        go_ret
        exact ⟨_, rfl, by rw [HE.out]; exact Polys.nilv _ _ _ _ (by decide), HX.out⟩
      · have hmd : m = d.length := by
          have h1 := congrArg List.length hd1
          rw [List.length_map] at h1
          omega
        obtain ⟨hsa, hc1, hc2⟩ := own_sortAtP hown hd2 hmd
        have hSg : ∀ k, NewOff w wr (.slice (some ⟨g, 0, none⟩) m hg') k → k < wr.heap.size ∧ k ≠ g := fun k hk => ⟨hk.1.2, fun e => hk.2 (by rw [e]; rfl)⟩
        have C := hid (sort_p (pc := fun x : PolyIn (NewOff w wr (.slice (some ⟨g, 0, none⟩) m hg')) wr => x.c) (cf := fun x y => rankC x.t y.t) (le := fun x y => rankL x.t y.t) (cap := hg') d wr (compare_cmp hSg) polyIn_le hmd hsa hc1 (by have := HMN.out; omega))
        have HD1 := hid hd1
        have HMD := hid hmd
        have HGW : Hid (w.heap.size ≤ g) := hid hg
        have HSG := hid hSg
        unfold maxLen at hc2
        have HC2 := hid hc2
        have HC1 := hid hc1
        clear hcells hm hsm hd1 hd2 hown hmd hsa hSg hg hgg hnc hcm hsz hcur hx hc1 hc2
        go_wp2_with fail
        with_reducible refine C.out.mono ?_
        rintro e w2 ⟨rfl, hs2⟩
        have HS2 := hid hs2
        clear hs2
        go_wp2
        go_ret
        have hx2 : Ext w w2 := ext_grown HX.out HS2.out.grown (fun k hk => by
          have : g = k := Option.some.inj hk
          have := HGW.out
          omega)
        refine ⟨_, rfl, ?_, hx2⟩
        have hk2 : Kept (NewOff w wr (.slice (some ⟨g, 0, none⟩) m hg')) wr w2 := Kept.grown HS2.out.grown (fun k hk => ⟨(HSG.out k hk).1, fun e => (HSG.out k hk).2 (Option.some.inj e)⟩)
        have hsr : sortR ls = (sortL (fun x y => rankL x.t y.t) d).map (·.t) := by
          unfold sortR
          rw [← HD1.out]
          exact (map_sort (fun x : PolyIn (NewOff w wr (.slice (some ⟨g, 0, none⟩) m hg')) wr => x.t) d).symm
        rw [hsr]
        have hlen : m = ((sortL (fun x y => rankL x.t y.t) d).map (·.t)).length := by rw [List.length_map, sortL_len]; exact HMD.out
        refine ⟨g, 0, ⟨_, hg', by rw [← hlen]; rfl, by rw [← hlen]; exact HC1.out, HC2.out, fun _ => rfl, fun _ => ⟨HGW.out, Nat.lt_of_lt_of_le HS2.out.old HS2.out.grown.size⟩⟩, fun j p hj => ?_⟩
        rw [List.getElem?_map] at hj
        obtain ⟨x, hx, rfl⟩ := Option.map_eq_some_iff.1 hj
        refine ⟨_, (HS2.out.get1 hx).1, x.h.to hk2 (fun k hk => ⟨hk.1.1, Nat.lt_of_lt_of_le hk.1.2 HS2.out.grown.size⟩)⟩
end Go.Proofs.YthplgldclilccaaGreat

namespace Go.Proofs.YthplgldclilccaaGreat
open Go.RowKit

set_option maxRecDepth 100000 in
theorem build_each {S : Nat → Prop} (vq : Value) (qs : List RTerm) (w : World) (hq : Terms S w vq qs) (hS : ∀ k, S k → k < w.heap.size) (hrq : smallT qs) :
    Calls Tryz.prog 89 #[vq] w fun e w' => e = .returned (.bool (!mayT qs)) ∧ Ext w w' := by
  have hnot : ∀ (x : Bool) (w : World), (Op.unary .not (.bool x)).run Tryz.prog w = .ok (.bool (!x)) w := fun _ _ => rfl
  have HC := hid (poly_may vq qs w hq hS hrq)
  obtain ⟨aq, cq, rfl⟩ := hq.form
  clear hq hrq
  go_enter Tryz.func89, Tryz.ntmps89
  go_wp2_with fail
  refine HC.out.mono ?_
  rintro e w1 ⟨rfl, hx1⟩
  have HX1 := hid hx1
  clear hx1
  go_wp2
  all_goals
    go_ret
    exact ⟨rfl, HX1.out⟩

set_option maxRecDepth 100000 in
set_option maxHeartbeats 1000000 in
theorem build_index {S : Nat → Prop} (vl : Value) (ls : List (List RTerm)) (w : World) (hl : Polys S w vl ls) (hS : ∀ k, S k → k < w.heap.size) (hrl : smallL ls) :
    Calls Tryz.prog 122 #[vl, .func (.func 89) #[] #[]] w fun e w' => ∃ n : Int, e = .returned (.int .i64 n) ∧ -1 ≤ n ∧ n ≤ 9223372036854775807 ∧ (0 ≤ n ↔ ls.all mayT = false) ∧ Ext w w' := by
  have HL := hid hl
  have HRL := hid hrl
  have hle := hl.len_le
  obtain ⟨a, cap, rfl⟩ := hl.form
  clear hl hrl
  go_enter Tryz.func122, Tryz.ntmps122
  go_wp2
  go_loopw [8] (fun i wr => ∃ k : Nat, k ≤ ls.length ∧ i = .int .i64 k ∧ Ext w wr ∧ (ls.take k).all mayT = true) (fun i _ => ls.length - (intOf i).toNat)
  case atStart => exact ⟨0, Nat.zero_le _, rfl, Ext.refl _, rfl⟩
  case round =>
    obtain ⟨k, hk, rfl, hx, hm⟩ := hrel
    by_cases hlt : k < ls.length
    · obtain ⟨q, hq⟩ := some_of_lt hlt
      obtain ⟨bl, off, vq, rfl, -, hn1, hm1, hSb, h1, h2⟩ := HL.out.cellAt hq
      have HRQ := hid (HRL.out q (List.mem_of_getElem? hq))
      have g1 := Ext.cell hx h1
      have HX := hid hx
      have H2 := hid h2
      have HQ := hid hq
      have HM := hid hm
      have ht : ls.take (k + 1) = ls.take k ++ [q] := by rw [List.take_add_one, hq]; rfl
      have HT := hid ht
      obtain ⟨aq, cq, rfl⟩ := h2.form
      have hcl := build_each (S := S) (.slice aq q.length cq) q wr (h2.ext hx hS) (lt_ext hS hx) HRQ.out
      have HCL := hid hcl
      clear hcl h1 h2 hx hq hm ht
      go_wp2_with fail
      refine HCL.out.mono ?_
      rintro e w1 ⟨rfl, hx1⟩
      have HX1 := hid (HX.out.trans hx1)
      clear hx1
      cases hr : mayT q with
      | true =>
        have HR := hid hr
        clear hr
        go_wp2
        go_roundw
        case rel => exact ⟨k + 1, by omega, by go_num, HX1.out, by rw [HT.out]; rw [List.all_append, HM.out]; simp [HR.out]⟩
        case measure => simp only [intOf]; omega
      | false =>
        have HR := hid hr
        clear hr
        go_wp2
        go_ret
        refine ⟨(k : Int), rfl, by omega, by omega, ⟨fun _ => ?_, fun _ => by omega⟩, HX1.out⟩
        rw [List.all_eq_false]
        exact ⟨q, List.mem_of_getElem? HQ.out, by rw [HR.out]; simp⟩
    · obtain rfl : k = ls.length := by omega
      have HX := hid hx
      rw [List.take_length] at hm
      have HM := hid hm
      clear hx hm
      go_wp2
      go_ret
      exact ⟨-1, rfl, by omega, by omega, by rw [HM.out]; simp, HX.out⟩

set_option maxRecDepth 100000 in
set_option maxHeartbeats 1000000 in
theorem build_contains {S : Nat → Prop} (vl : Value) (ls : List (List RTerm)) (w : World) (hl : Polys S w vl ls) (hS : ∀ k, S k → k < w.heap.size) (hrl : smallL ls) :
    Calls Tryz.prog 88 #[vl, .func (.func 89) #[] #[]] w fun e w' => e = .returned (.bool (!(ls.all mayT))) ∧ Ext w w' := by
  have HI := hid (build_index vl ls w hl hS hrl)
  obtain ⟨a, cap, rfl⟩ := hl.form
  clear hl hrl
  go_enter Tryz.func88, Tryz.ntmps88
  go_wp2_with fail
  refine HI.out.mono ?_
  rintro e w1 ⟨n, rfl, hn1, hn2, hn3, hx1⟩
  have HX1 := hid hx1
  have HN := hid hn3
  clear hx1 hn3
  by_cases hn : 0 ≤ n
  · have HF := hid (HN.out.1 hn)
    go_wp2
    go_ret
    exact ⟨by rw [HF.out]; rfl, HX1.out⟩
  · have HF : Hid (ls.all mayT = true) := by
      cases h : ls.all mayT with
      | true => exact hid rfl
      | false => exact absurd (HN.out.2 h) hn
    go_wp2
    go_ret
    exact ⟨by rw [HF.out]; show Ending.returned (.bool (decide (0 ≤ n))) = _; rw [decide_eq_false (by omega)]; rfl, HX1.out⟩


/-- polynomials that lie in memory -/
abbrev PVs (W : World) (v : Value) (l : List PZ) : Prop := Polys (Old W) W v (l.map ofP)

set_option maxRecDepth 100000 in
set_option maxHeartbeats 8000000 in
theorem z_coefs {W : World} {u : Value} {p : PZ} {x : Int} {k n : Nat} (hp : PV W u p) (fp : Fit k n p) (hk : k ≤ 1000000) (hn : n ≤ 1000000000) (hx : 1 ≤ x ∧ x ≤ 200) :
    Calls Tryz.prog 39 #[u, .int .i64 x] W fun e w' => ∃ v', e = .returned v' ∧ Polys (New W w') w' v' ((coefsP p x).map ofP) ∧ Ext W w' := by
  have HP := hid hp
  have hdr := degP_range fp.can.may x
  have HI : Hid (inI64 x) := hid (by unfold inI64; omega)
  have CP := hid (view_plain u (ofP p) W hp (fun _ h => h) (fp.small hk))
  have epl : plainT (ofP p) = ofP p := by unfold plainT; rw [if_pos fp.may]
  rw [epl] at CP
  have CD := hid (fun (Y : World) (hY : Ext W Y) => z_degree (hp.on hY) fp hk HI.out)
  have CC := hid (fun (Y : World) (hY : Ext W Y) (d : Int) (hd : inI64 d) => z_coef (hp.on hY) fp hk hn hx hd)
  have HPN : Hid ((ofP p).length = 0 ↔ p = []) := hid (by rw [ofP_len]; exact List.length_eq_zero_iff)
  obtain ⟨ap, cp, rfl⟩ := hp.form
  obtain ⟨np, hnp⟩ : ∃ n, n = (ofP p).length := ⟨_, rfl⟩
  rw [← hnp] at HP CP CD CC HPN ⊢
  obtain ⟨D, hD⟩ : ∃ D : Nat, (D : Int) = degP p x := ⟨(degP p x).toNat, by omega⟩
  have HCO : Hid (coefsP p x = if np = 0 then [] else (List.range (D + 1)).map fun e => coefP p x (e : Nat)) := hid (by
    unfold coefsP
    by_cases h0 : np = 0
    · rw [if_pos h0, if_pos (HPN.out.1 h0)]
    · rw [if_neg h0, if_neg (fun e => h0 (HPN.out.2 e)), show (degP p x).toNat = D by omega])
  rw [← hD] at CD hdr
  have HNP := hid hnp
  have hle : np ≤ 9223372036854775807 := by rw [hnp]; exact HP.out.len_le
  obtain ⟨cl, hcl⟩ : ∃ cl, cl = (coefsP p x).map ofP := ⟨_, rfl⟩
  rw [← hcl]
  have HCL := hid hcl
  clear hp fp epl hD HPN hnp hcl
  by_cases h0 : np = 0
  · rw [if_pos h0] at HCO
    subst h0
    go_enter Tryz.func39, Tryz.ntmps39
    go_wp2_with fail
    with_reducible refine CP.out.mono ?_
    rintro e w1 ⟨v1, rfl, hp1, hx1⟩
    have HX1 := hid hx1
    obtain ⟨a1, c1, rfl⟩ := hp1.form
    rw [← HNP.out]
    clear hp1 hx1
    go_wp2
    all_goals
      go_ret
      refine ⟨_, rfl, ?_, HX1.out⟩
      rw [HCL.out, HCO.out]
      exact Polys.nilv _ _ _ _ (by decide)
  · rw [if_neg h0] at HCO
    have q0 : ((np : Int) == 0) = false := by rw [beq_eq_false_iff_ne]; omega
    have q1 : ¬ x < 1 := by omega
    have q2 : ¬ 200 < x := by omega
    have q3 : decide (x < 1) = false := decide_eq_false q1
    have q4 : decide (200 < x) = false := decide_eq_false q2
    have HCM : Hid ((coefsP p x).map ofP = (List.range (D + 1)).map fun e => ofP (coefP p x ((e : Nat) : Int))) := hid (by rw [HCO.out, List.map_map]; rfl)
    rw [HCM.out] at HCL
    clear h0 HCO HCM
    go_enter Tryz.func39, Tryz.ntmps39
    go_wp2_with fail
    with_reducible refine CP.out.mono ?_
    rintro e w1 ⟨v1, rfl, hp1, hx1⟩
    have HX1 := hid hx1
    obtain ⟨a1, c1, rfl⟩ := hp1.form
    rw [← HNP.out]
    clear hp1 hx1
    go_wp2_with fail
    with_reducible refine (CD.out _ HX1.out).mono ?_
    rintro e w2 ⟨rfl, hx2⟩
    have HX2 := hid (HX1.out.trans hx2)
    clear hx2
    go_wp2
    go_loopw [4, 5, 22] (fun o _ i wr => ∃ (k : Nat) (xs : List Value), k ≤ D + 1 ∧ i = .int .i64 k ∧ Ext w2 wr ∧ Hid (wr.ownsRow w2.heap.size 26 1 o k xs) ∧ Hid (CellsL (NewOff w2 wr o) wr xs ((List.range k).map fun e => ofP (coefP p x ((e : Nat) : Int))))) (fun _ _ i _ => D + 1 - (intOf i).toNat)
    case atStart => exact ⟨0, [], Nat.zero_le _, rfl, Ext.refl _, World.ownsRow_nil _ _ _ _, CellsL.nil _ _⟩
    case round =>
      obtain ⟨j, xs, hj, rfl, hx, HW, HY⟩ := hrel
      have HX := hid hx
      by_cases hlt : j < D + 1
      · have q5 : (j : Int) < (D : Int) + 1 := by omega
        have HC1 := hid (CC.out wr (HX2.out.trans hx) (j : Int) (by unfold inI64; omega))
        have HKB : Hid (j ≤ 1000000000) := hid (by omega)
        have HT : Hid (((List.range (j + 1)).map fun e => ofP (coefP p x ((e : Nat) : Int))) = ((List.range j).map fun e => ofP (coefP p x ((e : Nat) : Int))) ++ [ofP (coefP p x (j : Int))]) := hid (by rw [List.range_succ, List.map_append]; rfl)
        clear hx
        go_wp2_with fail
        with_reducible refine HC1.out.mono ?_
        rintro e w3 ⟨v3, rfl, hp3, hx3⟩
        have HW3 := hid (own_ext HW.out hx3)
        have HY3 := hid (cellsL_ext HY.out hx3)
        have HP3 := hid (terms_off HX.out HW.out hp3)
        have HX3 := hid (HX.out.trans hx3)
        obtain ⟨a3, c3, rfl⟩ := hp3.form
        obtain ⟨n3, hn3⟩ : ∃ n, n = (ofP (coefP p x (j : Int))).length := ⟨_, rfl⟩
        rw [← hn3] at HP3 ⊢
        clear hp3 hx3 hn3
        go_wp2_with (at_builtin; refine wpList_append_new _ rfl (.tmp 25) (.tmp 30) 22 rfl w2.heap.size 26 (.slice none 0 0) 1 24 Tryz.underlying22 Tryz.infoPoly rfl (by decide) _ j xs rfl HW3.out #[.slice a3 n3 c3] rfl (one_cellV rfl) rfl HKB.out (by decide) HX3.out.size ?_; intro v4 w4 hown hg hbk; have HW4 := hid hown; have HG4 := hid hg; have HBK := hid hbk; clear hown hg hbk)
        go_roundw
        case rel =>
          refine ⟨j + 1, xs ++ (#[.slice a3 n3 c3] : Array Value).toList, by omega, by go_num, own_grown0 HX3.out HW3.out HG4.out, HW4.out, ?_⟩
          show CellsL _ _ _ _
          rw [HT.out]
          exact cellsL_grown (HY3.out.snoc HP3.out) HG4.out HBK.out (Nat.le_succ _)
        case measure => simp only [intOf]; omega
      · obtain rfl : j = D + 1 := by omega
        have HO := hid (own_polys (S := New W wr) (l := (List.range (D + 1)).map fun e => ofP (coefP p x ((e : Nat) : Int))) (by rw [List.length_map, List.length_range]; exact HW.out) (HY.out.to (Kept.refl _ _) (fun _ h => ⟨Nat.le_trans HX2.out.size h.1.1, h.1.2⟩)) (fun k h1 h2 => ⟨Nat.le_trans HX2.out.size h1, h2⟩))
        have q5 : ¬ ((D : Int) + 1 < (D : Int) + 1) := by omega
        clear hx
        go_wp2
        all_goals
          go_ret
          refine ⟨_, rfl, ?_, HX2.out.trans HX.out⟩
          rw [HCL.out]
          exact HO.out
end Go.Proofs.YthplgldclilccaaGreat

namespace Go.Proofs.YthplgldclilccaaGreat
open Go.RowKit

theorem pow_one (v : Int) (i : Nat) : oneZ 1 (if i = 0 then [] else [(v, (i : Int))]) = powP v i := by
  unfold oneZ powP
  rw [if_neg (by decide)]
  split <;> rfl
theorem buildF_at {v : Int} {acc : PZ} {l : List PZ} {i : Nat} {q : PZ} (h : l[i]? = some q) : buildF v acc i (l.drop i) = match timesP q (powP v i) with
    | none => none
    | some x => buildF v (normP (acc ++ x)) (i + 1) (l.drop (i + 1)) := by
  rw [drop_at h]
  rfl

set_option maxRecDepth 100000 in
set_option maxHeartbeats 8000000 in
theorem z_build {W : World} {vl : Value} {l : List PZ} {x : Int} {k n : Nat} (hl : PVs W vl l) (fl : ∀ q ∈ l, Fit k n q) (hk : k ≤ 1000) (hn : n ≤ 1000) (hlen : l.length ≤ 1000) (hx : 1 ≤ x ∧ x ≤ 200) :
    Calls Tryz.prog 37 #[vl, .int .i64 x] W (TimesPost W (buildP l x)) := by
  have HL := hid hl
  have HF := hid fl
  have HXI : Hid (inI64 x) := hid (by unfold inI64; omega)
  have HXV := hid hx
  have CC := build_contains (S := Old W) vl (l.map ofP) W hl (fun _ h => h) (fun q hq => by
    obtain ⟨p, hp, rfl⟩ := List.mem_map.1 hq
    exact (fl p hp).small (by omega))
  rw [show (l.map ofP).all mayT = true from List.all_eq_true.2 (fun q hq => by
    obtain ⟨p, hp, rfl⟩ := List.mem_map.1 hq
    exact (fl p hp).may)] at CC
  have HCC := hid CC
  obtain ⟨al, cl, rfl⟩ := hl.form
  obtain ⟨N, hN⟩ : ∃ n, n = (l.map ofP).length := ⟨_, rfl⟩
  have HN : Hid (N = l.length) := hid (by rw [hN, List.length_map])
  rw [← hN] at HL HCC ⊢
  have hN1 : N ≤ 1000 := by rw [HN.out]; exact hlen
  obtain ⟨o, ho⟩ : ∃ o, o = buildP l x := ⟨_, rfl⟩
  rw [← ho]
  have HO := hid ho
  have q1 : decide (x < 1) = false := decide_eq_false (by omega)
  have q2 : decide (200 < x) = false := decide_eq_false (by omega)
  have q3 : decide ((10001 : Int) < (N : Int)) = false := decide_eq_false (by omega)
  have q4 : ¬ x < 1 := by omega
  have q5 : ¬ 200 < x := by omega
  have q6 : ¬ (10001 : Int) < (N : Int) := by omega
  clear hl fl CC hN hlen ho
  go_enter Tryz.func37, Tryz.ntmps37
  go_wp2_with fail
  with_reducible refine HCC.out.mono ?_
  rintro e w1 ⟨rfl, hx1⟩
  have HX1 := hid hx1
  have HL1 := hid (HL.out.on hx1)
  clear hx1
  go_wp2
  go_loopw [4, 28] (fun p i wr => ∃ (i0 : Nat) (acc : PZ), i0 ≤ N ∧ i = .int .i64 i0 ∧ Ext w1 wr ∧ Hid (Terms (New W wr) wr p (ofP acc)) ∧ Hid (Fit (k + 3 + 2 * i0) (n * i0) acc) ∧ Hid (buildF x acc i0 (l.drop i0) = o)) (fun _ i _ => N - (intOf i).toNat)
  case atStart => exact ⟨0, [], Nat.zero_le _, rfl, Ext.refl _, Terms.nilv _ _ _ _ (by decide), fit_nil.mono (by omega) (by omega), HO.out.symm⟩
  case round =>
    obtain ⟨i, acc, hi, rfl, hx, HAN, HFA, HB⟩ := hrel
    have HA := hid (show PV wr u4 acc from HAN.out.to (Kept.refl _ _) New.lt)
    have HX := hid hx
    by_cases hlt : i < N
    · obtain ⟨q, hq⟩ := some_of_lt (l := l) (j := i) (by rw [← HN.out]; exact hlt)
      have hq2 : (l.map ofP)[i]? = some (ofP q) := by rw [List.getElem?_map, hq]; rfl
      obtain ⟨bl, off, vq, rfl, -, hn1, hm1, hSb, h1, h2⟩ := (HL1.out.on hx).cellAt hq2
      have fq := HF.out q (List.mem_of_getElem? hq)
      have HFQ := hid fq
      have HBA := hid (buildF_at (v := x) (acc := acc) hq)
      rw [HB.out] at HBA
      have H2 := hid (show PV wr vq q from h2)
      have CS := hid (fun (Y : World) (vc vm : Value) (hY : Ext wr Y) (hc : IntV (Old Y) Y vc (ofI 1)) (hm : Pows (Old Y) Y vm (if i = 0 then [] else [(x, (i : Int))])) => z_shift (Terms.on h2 hY) hc hm fq (by
        split
        · rfl
        · exact one_may HXV.out (by omega)) (l := 1) (lenI_small (by decide)) (.inr (by decide)) (by omega) (by decide) (by omega))
      simp only [pow_one] at CS
      have CA := hid (fun (Y : World) (va vb : Value) (X : PZ) (ht : timesP q (powP x i) = some X) (ha : PV Y va acc) (hb : PV Y vb X) => z_add ha hb HFA.out ((fq.times (fit_pow HXV.out (i := i) (by omega)) ht (by omega)).mono (l := k + 3 + 2 * i) (m := n) (by omega) (by omega)) (by omega) (by omega) (by
        have : n * i ≤ 1000 * 1000 := Nat.mul_le_mul (by omega) (by omega)
        omega))
      have CB := hid (fun (X : PZ) (ht : timesP q (powP x i) = some X) => by
        have h := HFA.out.add ((fq.times (fit_pow HXV.out (i := i) (by omega)) ht (by omega)).mono (l := k + 3 + 2 * i) (m := n) (by omega) (by omega)) (by
          have : n * i ≤ 1000 * 1000 := Nat.mul_le_mul (by omega) (by omega)
          omega)
        exact h.mono (l := k + 3 + 2 * (i + 1)) (m := n * (i + 1)) (by omega) (by rw [Nat.mul_add]; omega))
      obtain ⟨aq, cq, rfl⟩ := h2.form
      obtain ⟨nq, hnq⟩ : ∃ n, n = (ofP q).length := ⟨_, rfl⟩
      rw [← hnq] at CS h1 H2
      obtain ⟨aa, ca, rfl⟩ := HAN.out.form
      clear HAN
      obtain ⟨na, hna⟩ : ∃ n, n = (ofP acc).length := ⟨_, rfl⟩
      rw [← hna] at HA ⊢
      have hq7 : (i : Int) < (N : Int) := by omega
      clear h2 hq hq2 hx fq hnq hna
      by_cases hi0 : i = 0
      · subst hi0
        rw [Nat.add_zero] at h1
        have HXA := hid (Ext.refl wr)
        have CO := hid (whole_of 1 wr (by decide))
        rw [if_pos rfl] at CS
        go_wp2_with fail
        with_reducible refine CO.out.mono ?_
        rintro e w2 ⟨v2, rfl, ⟨vz, rfl, hz⟩, hx2⟩
        have HX2 := hid (HXA.out.trans hx2)
        have CS2 := hid (CS.out w2 (.agg #[.bool (ofI 1).neg, vz]) (.slice none 0 0) (HXA.out.trans hx2) ⟨_, rfl, hz.to (Kept.refl _ _) New.lt⟩ (Pows.empty _ _ _))
        obtain ⟨az, cz, rfl⟩ := hz.form
        obtain ⟨nz, hnz⟩ : ∃ n, n = (ofI 1).mag.length := ⟨_, rfl⟩
        obtain ⟨bz, hbz⟩ : ∃ n, n = (ofI 1).neg := ⟨_, rfl⟩
        rw [← hnz, ← hbz] at CS2 ⊢
        clear hz hx2 hnz hbz
        cases ht : timesP q (powP x 0) with
        | none =>
          rw [ht] at CS2
          have HNO : Hid (o = none) := hid (by rw [HBA.out, ht])
          clear ht
          go_wp2_with fail
          with_reducible refine CS2.out.mono ?_
          rintro e w3 ⟨rfl, hx3⟩
          have HX3 := hid (HX1.out.trans (HX.out.trans (HX2.out.trans hx3)))
          clear hx3
          go_wp2
          all_goals
            go_ret2
            rw [HNO.out]
            exact ⟨rfl, HX3.out⟩
        | some X =>
          rw [ht] at CS2
          have HYES := hid HBA.out
          rw [ht] at HYES
          have CA2 := hid (fun (Y : World) (va vb : Value) (ha : PV Y va acc) (hb : PV Y vb X) => CA.out Y va vb X ht ha hb)
          have CB2 := hid (CB.out X ht)
          clear ht
          go_wp2_with fail
          with_reducible refine CS2.out.mono ?_
          rintro e w3 ⟨v3, rfl, hp3, hx3⟩
          have HX3 := hid (HX2.out.trans hx3)
          have CA3 := hid (CA2.out w3 _ v3 (Terms.on HA.out (HX2.out.trans hx3)) (hp3.to (Kept.refl _ _) New.lt))
          obtain ⟨a3, c3, rfl⟩ := hp3.form
          obtain ⟨n3, hn3⟩ : ∃ n, n = (ofP X).length := ⟨_, rfl⟩
          rw [← hn3] at CA3 ⊢
          clear hp3 hx3 hn3
          go_wp2_with fail
          with_reducible refine CA3.out.mono ?_
          rintro e w4 ⟨v4, rfl, hp4, hx4⟩
          have HX4 := hid (HX.out.trans (HX3.out.trans hx4))
          have HP4 := hid (hp4.to (S' := New W w4) (Kept.refl _ _) (fun k h => ⟨Nat.le_trans (HX1.out.trans (HX.out.trans HX3.out)).size h.1, h.2⟩))
          clear hp4 hx4
          go_wp2
          go_roundw
          case rel => exact ⟨1, normP (acc ++ X), by omega, by go_num, HX4.out, HP4, CB2, hid HYES.out.symm⟩
          case measure => simp only [intOf]; omega
      · have q8 : decide ((0 : Int) < (i : Int)) = true := decide_eq_true (by omega)
        have q9 : decide (0 < i) = true := decide_eq_true (by omega)
        have HM0 := hid (one_pows (w := wr) (v := x) (e := (i : Int)) HXI.out (by unfold inI64; omega) 104)
        have HXA := hid (Ext.alloc (Ext.refl wr) (.cells #[.int .i64 x, .int .i64 (i : Int)] 104))
        have CO := hid (whole_of 1 (wr.alloc (.cells #[.int .i64 x, .int .i64 (i : Int)] 104)) (by decide))
        rw [if_neg hi0] at CS
        clear hi0
        go_wp2_with fail
        with_reducible refine CO.out.mono ?_
        rintro e w2 ⟨v2, rfl, ⟨vz, rfl, hz⟩, hx2⟩
        have HX2 := hid (HXA.out.trans hx2)
        have CS2 := hid (CS.out w2 (.agg #[.bool (ofI 1).neg, vz]) (.slice (some ⟨wr.heap.size, 0, none⟩) 1 1) (HXA.out.trans hx2) ⟨_, rfl, hz.to (Kept.refl _ _) New.lt⟩ (HM0.out.on hx2))
        obtain ⟨az, cz, rfl⟩ := hz.form
        obtain ⟨nz, hnz⟩ : ∃ n, n = (ofI 1).mag.length := ⟨_, rfl⟩
        obtain ⟨bz, hbz⟩ : ∃ n, n = (ofI 1).neg := ⟨_, rfl⟩
        rw [← hnz, ← hbz] at CS2 ⊢
        clear hz hx2 hnz hbz
        cases ht : timesP q (powP x i) with
        | none =>
          rw [ht] at CS2
          have HNO : Hid (o = none) := hid (by rw [HBA.out, ht])
          clear ht
          go_wp2_with fail
          with_reducible refine CS2.out.mono ?_
          rintro e w3 ⟨rfl, hx3⟩
          have HX3 := hid (HX1.out.trans (HX.out.trans (HX2.out.trans hx3)))
          clear hx3
          go_wp2
          all_goals
            go_ret2
            rw [HNO.out]
            exact ⟨rfl, HX3.out⟩
        | some X =>
          rw [ht] at CS2
          have HYES := hid HBA.out
          rw [ht] at HYES
          have CA2 := hid (fun (Y : World) (va vb : Value) (ha : PV Y va acc) (hb : PV Y vb X) => CA.out Y va vb X ht ha hb)
          have CB2 := hid (CB.out X ht)
          clear ht
          go_wp2_with fail
          with_reducible refine CS2.out.mono ?_
          rintro e w3 ⟨v3, rfl, hp3, hx3⟩
          have HX3 := hid (HX2.out.trans hx3)
          have CA3 := hid (CA2.out w3 _ v3 (Terms.on HA.out (HX2.out.trans hx3)) (hp3.to (Kept.refl _ _) New.lt))
          obtain ⟨a3, c3, rfl⟩ := hp3.form
          obtain ⟨n3, hn3⟩ : ∃ n, n = (ofP X).length := ⟨_, rfl⟩
          rw [← hn3] at CA3 ⊢
          clear hp3 hx3 hn3
          go_wp2_with fail
          with_reducible refine CA3.out.mono ?_
          rintro e w4 ⟨v4, rfl, hp4, hx4⟩
          have HX4 := hid (HX.out.trans (HX3.out.trans hx4))
          have HP4 := hid (hp4.to (S' := New W w4) (Kept.refl _ _) (fun k h => ⟨Nat.le_trans (HX1.out.trans (HX.out.trans HX3.out)).size h.1, h.2⟩))
          clear hp4 hx4
          go_wp2
          go_roundw
          case rel => exact ⟨i + 1, normP (acc ++ X), by omega, by go_num, HX4.out, HP4, CB2, hid HYES.out.symm⟩
          case measure => simp only [intOf]; omega
    · obtain rfl : N = i := by omega
      have HE : Hid (o = some acc) := hid (by
        have h := HB.out
        rw [List.drop_of_length_le (by rw [← HN.out]; exact Nat.le_refl _)] at h
        exact h.symm)
      obtain ⟨aa, ca, rfl⟩ := HAN.out.form
      clear hx
      go_wp2
      all_goals
        go_ret2
        rw [HE.out]
        exact ⟨_, rfl, HAN.out, HX1.out.trans HX.out⟩
end Go.Proofs.YthplgldclilccaaGreat

namespace Go.Proofs.YthplgldclilccaaGreat
open Go.RowKit

set_option maxRecDepth 100000 in
set_option maxHeartbeats 1000000 in
theorem rsame01 {S : Nat → Prop} (va vb : Value) (xs ys : List Nat) (w : World) (ha : U32s S w va xs) (hb : U32s S w vb ys) (hS : ∀ k, S k → k < w.heap.size) :
    Calls Tryz.prog 101 #[va, vb] w fun e w' => e = .returned (.bool (decide (xs = ys))) ∧ Ext w w' := by
  have HA := hid ha
  have HB := hid hb
  have hla := ha.len_le
  have hlb := hb.len_le
  obtain ⟨aa, ca, rfl⟩ := ha.form
  obtain ⟨ab, cb, rfl⟩ := hb.form
  obtain ⟨na, hna⟩ : ∃ n, n = xs.length := ⟨_, rfl⟩
  obtain ⟨nb, hnb⟩ : ∃ n, n = ys.length := ⟨_, rfl⟩
  rw [← hna] at HA hla ⊢
  rw [← hnb] at HB hlb ⊢
  have HNA := hid hna
  have HNB := hid hnb
  clear ha hb hna hnb
  by_cases hne : na = nb
  · subst hne
    go_enter Tryz.func101, Tryz.ntmps101
    go_wp2
    go_loopw [5] (fun i wr => ∃ k : Nat, k ≤ na ∧ i = .int .i64 k ∧ Ext w wr ∧ Hid (xs.take k = ys.take k)) (fun i _ => na - (intOf i).toNat)
    case atStart => exact ⟨0, Nat.zero_le _, rfl, Ext.refl _, rfl⟩
    case round =>
      obtain ⟨k, hk, rfl, hx, HE⟩ := hrel
      have HX := hid hx
      by_cases hlt : k < na
      · obtain ⟨x, hxk⟩ := some_of_lt (l := xs) (j := k) (by rw [← HNA.out]; exact hlt)
        obtain ⟨y, hyk⟩ := some_of_lt (l := ys) (j := k) (by rw [← HNB.out]; exact hlt)
        obtain ⟨b1, o1, rfl, -, hc1, hm1, hz1, h1⟩ := (HA.out.ext hx hS).cellAt hxk
        obtain ⟨b2, o2, rfl, -, hc2, hm2, hz2, h2⟩ := (HB.out.ext hx hS).cellAt hyk
        have HXK := hid hxk
        have HYK := hid hyk
        clear hxk hyk hx
        by_cases he : x = y
        · have q1 : ((x : Int) != (y : Int)) = false := by rw [he]; simp
          have H0 := hid he
          clear he
          go_wp2
          go_quiet (fail)
          go_wp2
          go_roundw
          case rel => exact ⟨k + 1, by omega, by go_num, HX.out.drewN _, take_eq_succ HE.out HXK.out (by rw [H0.out]; exact HYK.out)⟩
          case measure => simp only [intOf]; omega
        · have q1 : ((x : Int) != (y : Int)) = true := by rw [bne_iff_ne]; omega
          have HF : Hid (xs ≠ ys) := hid (ne_of_at HXK.out HYK.out he)
          clear he
          go_wp2
          go_quiet (fail)
          go_wp2
          go_ret
          exact ⟨by rw [decide_eq_false HF.out]; rfl, HX.out.drewN _⟩
      · obtain rfl : k = na := by omega
        have HF : Hid (xs = ys) := hid (by have := HE.out; rwa [List.take_of_length_le (by rw [← HNA.out]; exact Nat.le_refl _), List.take_of_length_le (by rw [← HNB.out]; exact Nat.le_refl _)] at this)
        clear hx
        go_wp2
        go_ret
        exact ⟨by rw [decide_eq_true HF.out]; rfl, HX.out⟩
  · have hb : ((na : Int) != (nb : Int)) = true := by rw [bne_iff_ne]; omega
    have HF : Hid (xs ≠ ys) := hid (fun e => hne (by rw [HNA.out, HNB.out, e]))
    clear hne
    go_enter Tryz.func101, Tryz.ntmps101
    go_wp2
    go_ret
    exact ⟨by rw [decide_eq_false HF.out]; rfl, Ext.refl _⟩
set_option maxRecDepth 100000 in
set_option maxHeartbeats 1000000 in
theorem rsame07 {S : Nat → Prop} (va vb : Value) (xs ys : Mono) (w : World) (ha : Pows S w va xs) (hb : Pows S w vb ys) (hS : ∀ k, S k → k < w.heap.size) :
    Calls Tryz.prog 56 #[va, vb] w fun e w' => e = .returned (.bool (decide (xs = ys))) ∧ Ext w w' := by
  have HA := hid ha
  have HB := hid hb
  have hla := ha.len_le
  have hlb := hb.len_le
  obtain ⟨aa, ca, rfl⟩ := ha.form
  obtain ⟨ab, cb, rfl⟩ := hb.form
  obtain ⟨na, hna⟩ : ∃ n, n = xs.length := ⟨_, rfl⟩
  obtain ⟨nb, hnb⟩ : ∃ n, n = ys.length := ⟨_, rfl⟩
  rw [← hna] at HA hla ⊢
  rw [← hnb] at HB hlb ⊢
  have HNA := hid hna
  have HNB := hid hnb
  clear ha hb hna hnb
  by_cases hne : na = nb
  · subst hne
    go_enter Tryz.func56, Tryz.ntmps56
    go_wp2
    go_loopw [5] (fun i wr => ∃ k : Nat, k ≤ na ∧ i = .int .i64 k ∧ Ext w wr ∧ Hid (xs.take k = ys.take k)) (fun i _ => na - (intOf i).toNat)
    case atStart => exact ⟨0, Nat.zero_le _, rfl, Ext.refl _, rfl⟩
    case round =>
      obtain ⟨k, hk, rfl, hx, HE⟩ := hrel
      have HX := hid hx
      by_cases hlt : k < na
      · obtain ⟨x, hxk⟩ := some_of_lt (l := xs) (j := k) (by rw [← HNA.out]; exact hlt)
        obtain ⟨y, hyk⟩ := some_of_lt (l := ys) (j := k) (by rw [← HNB.out]; exact hlt)
        obtain ⟨b1, o1, c1', hv1, hc1, hm1, ⟨⟨hz1, hz2⟩, hz3, hz4⟩, h1, h1'⟩ := (HA.out.ext hx hS).at hxk
        obtain ⟨rfl, -, rfl⟩ : aa = some ⟨b1, o1, none⟩ ∧ na = xs.length ∧ ca = c1' := by simpa using hv1
        obtain ⟨b2, o2, c2', hv2, hc2, hm2, ⟨⟨hy1, hy2⟩, hy3, hy4⟩, h2, h2'⟩ := (HB.out.ext hx hS).at hyk
        obtain ⟨rfl, -, rfl⟩ : ab = some ⟨b2, o2, none⟩ ∧ na = ys.length ∧ cb = c2' := by simpa using hv2
        clear hv1 hv2
        rw [← HNA.out] at hc1
        rw [← HNB.out] at hc2
        have HXK := hid hxk
        have HYK := hid hyk
        clear hxk hyk hx
        by_cases he : x = y
        · have H0 := hid he
          obtain ⟨x1, x2⟩ := x
          obtain ⟨y1, y2⟩ := y
          obtain ⟨rfl, rfl⟩ : x1 = y1 ∧ x2 = y2 := by simpa using he
          simp only at h1 h1' h2 h2' hz1 hz2 hz3 hz4 hy1 hy2 hy3 hy4
          clear he
          go_wp2
          go_quiet (fail)
          go_wp2
          go_roundw
          case rel => exact ⟨k + 1, by omega, by go_num, HX.out.drewN _, take_eq_succ HE.out HXK.out HYK.out⟩
          case measure => simp only [intOf]; omega
        · have HF : Hid (xs ≠ ys) := hid (ne_of_at HXK.out HYK.out he)
          obtain ⟨x1, x2⟩ := x
          obtain ⟨y1, y2⟩ := y
          simp only at h1 h1' h2 h2' hz1 hz2 hz3 hz4 hy1 hy2 hy3 hy4
          have he' : x1 ≠ y1 ∨ (x1 = y1 ∧ x2 ≠ y2) := by
            by_cases h : x1 = y1
            · exact .inr ⟨h, fun h' => he (by rw [h, h'])⟩
            · exact .inl h
          clear he
          rcases he' with he | ⟨rfl, he⟩
          all_goals
            go_wp2
            go_quiet (fail)
            go_wp2
            go_ret
            exact ⟨by rw [decide_eq_false HF.out]; rfl, HX.out.drewN _⟩
      · obtain rfl : k = na := by omega
        have HF : Hid (xs = ys) := hid (by have := HE.out; rwa [List.take_of_length_le (by rw [← HNA.out]; exact Nat.le_refl _), List.take_of_length_le (by rw [← HNB.out]; exact Nat.le_refl _)] at this)
        clear hx
        go_wp2
        go_ret
        exact ⟨by rw [decide_eq_true HF.out]; rfl, HX.out⟩
  · have hb : ((na : Int) != (nb : Int)) = true := by rw [bne_iff_ne]; omega
    have HF : Hid (xs ≠ ys) := hid (fun e => hne (by rw [HNA.out, HNB.out, e]))
    clear hne
    go_enter Tryz.func56, Tryz.ntmps56
    go_wp2
    go_ret
    exact ⟨by rw [decide_eq_false HF.out]; rfl, Ext.refl _⟩

set_option maxRecDepth 100000 in
set_option maxHeartbeats 2000000 in
theorem rsame04 {S : Nat → Prop} (v1 v2 : Value) (sn tn : Bool) (sm tm : List Nat) (w : World) (h1 : U32s S w v1 sm) (h2 : U32s S w v2 tm) (hS : ∀ k, S k → k < w.heap.size) :
    Calls Tryz.prog 55 #[.agg #[.bool sn, v1], .agg #[.bool tn, v2]] w fun e w' => e = .returned (.bool (decide (sn = tn) && decide (sm = tm))) ∧ Ext w w' := by
  have CU := fun (W : World) (hW : Ext w W) => rsame01 _ _ sm tm W (h1.ext hW hS) (h2.ext hW hS) (lt_ext hS hW)
  obtain ⟨a1, c1, rfl⟩ := h1.form
  obtain ⟨a2, c2, rfl⟩ := h2.form
  have hx : Ext w ((w.alloc (.cells #[.bool sn, .slice a1 sm.length c1] 72)).alloc (.cells #[.bool tn, .slice a2 tm.length c2] 72)) := Ext.alloc (Ext.alloc (Ext.refl w) _) _
  have HX := hid hx
  clear h1 h2 hx
  by_cases hs : sn = tn
  · subst hs
    cases hm : decide (sm = tm) with
    | false =>
      simp only [hm] at CU
      have HCU := hid CU
      clear CU hm
      go_enter Tryz.func55, Tryz.ntmps55
      go_wp2_with fail
      with_reducible refine (HCU.out _ HX.out).mono ?_
      rintro e w1 ⟨rfl, hx1⟩
      have HX1 := hid (HX.out.trans hx1)
      clear hx1
      go_wp2
      all_goals
        go_ret
        exact ⟨by simp, HX1.out⟩
    | true =>
      simp only [hm] at CU
      have HCU := hid CU
      clear CU hm
      go_enter Tryz.func55, Tryz.ntmps55
      go_wp2_with fail
      with_reducible refine (HCU.out _ HX.out).mono ?_
      rintro e w1 ⟨rfl, hx1⟩
      have HX1 := hid (HX.out.trans hx1)
      clear hx1
      go_wp2
      all_goals
        go_ret
        exact ⟨by simp, HX1.out⟩
  · have hb : (sn == tn) = false := by rw [beq_eq_false_iff_ne]; exact hs
    have HF := hid (decide_eq_false hs)
    clear hs CU
    go_enter Tryz.func55, Tryz.ntmps55
    go_wp2
    all_goals
      go_ret
      exact ⟨by rw [HF.out]; simp, HX.out⟩

set_option maxRecDepth 100000 in
set_option maxHeartbeats 4000000 in
theorem rpoly_same {S : Nat → Prop} (va vb : Value) (xs ys : List RTerm) (w : World) (ha : Terms S w va xs) (hb : Terms S w vb ys) (hS : ∀ k, S k → k < w.heap.size) :
    Calls Tryz.prog 16 #[va, vb] w fun e w' => e = .returned (.bool (decide (xs = ys))) ∧ Ext w w' := by
  have HA := hid ha
  have HB := hid hb
  have hla := ha.len_le
  have hlb := hb.len_le
  obtain ⟨aa, ca, rfl⟩ := ha.form
  obtain ⟨ab, cb, rfl⟩ := hb.form
  obtain ⟨na, hna⟩ : ∃ n, n = xs.length := ⟨_, rfl⟩
  obtain ⟨nb, hnb⟩ : ∃ n, n = ys.length := ⟨_, rfl⟩
  rw [← hna] at HA hla ⊢
  rw [← hnb] at HB hlb ⊢
  have HNA := hid hna
  have HNB := hid hnb
  clear ha hb hna hnb
  by_cases hne : na = nb
  · subst hne
    go_enter Tryz.func16, Tryz.ntmps16
    go_wp2
    go_loopw [5] (fun i wr => ∃ k : Nat, k ≤ na ∧ i = .int .i64 k ∧ Ext w wr ∧ Hid (xs.take k = ys.take k)) (fun i _ => na - (intOf i).toNat)
    case atStart => exact ⟨0, Nat.zero_le _, rfl, Ext.refl _, rfl⟩
    case round =>
      obtain ⟨k, hk, rfl, hx, HE⟩ := hrel
      have HX := hid hx
      by_cases hlt : k < na
      · obtain ⟨x, hxk⟩ := some_of_lt (l := xs) (j := k) (by rw [← HNA.out]; exact hlt)
        obtain ⟨y, hyk⟩ := some_of_lt (l := ys) (j := k) (by rw [← HNB.out]; exact hlt)
        obtain ⟨b1, o1, v1, v2, rfl, -, hc1, hm1, hz1, h1, h2, h3, h4, h5⟩ := (HA.out.ext hx hS).cellAt hxk
        obtain ⟨b2, o2, v3, v4, rfl, -, hc2, hm2, hz2, g1, g2, g3, g4, g5⟩ := (HB.out.ext hx hS).cellAt hyk
        have HXK := hid hxk
        have HYK := hid hyk
        obtain ⟨⟨xn, xm⟩, xo⟩ := x
        obtain ⟨⟨yn, ym⟩, yo⟩ := y
        simp only at h1 h2 h3 h4 h5 g1 g2 g3 g4 g5
        have hSr := lt_ext hS hx
        have C4 := fun Y : Later wr => rsame04 (S := S) v1 v3 xn yn xm ym Y.w' (h4.ext Y.h hSr) (g4.ext Y.h hSr) (lt_ext hSr Y.h)
        have C7 := fun Y : Later wr => rsame07 (S := S) v2 v4 xo yo Y.w' (h5.ext Y.h hSr) (g5.ext Y.h hSr) (lt_ext hSr Y.h)
        have L1 := fun Y : Later wr => Y.h.cell h1
        have L2 := fun Y : Later wr => Y.h.cell h2
        have L3 := fun Y : Later wr => Y.h.cell h3
        have M1 := fun Y : Later wr => Y.h.cell g1
        have M2 := fun Y : Later wr => Y.h.cell g2
        have M3 := fun Y : Later wr => Y.h.cell g3
        obtain ⟨a1, c1, rfl⟩ := h4.form
        obtain ⟨a2, c2, rfl⟩ := h5.form
        obtain ⟨a3, c3, rfl⟩ := g4.form
        obtain ⟨a4, c4, rfl⟩ := g5.form
        have hlen : Hid (xs.length = na ∧ ys.length = na) := hid ⟨HNA.out.symm, HNB.out.symm⟩
        have q1 : (k : Int) < (na : Int) := by omega
        clear h1 h2 h3 h4 h5 g1 g2 g3 g4 g5 hxk hyk hx hSr
        cases hd4 : (decide (xn = yn) && decide (xm = ym)) with
        | false =>
          have HF : Hid (xs ≠ ys) := hid (ne_of_at HXK.out HYK.out (fun e => by
            simp at e
            obtain ⟨⟨e1, e2⟩, e3⟩ := e
            rw [e1, e2] at hd4
            simp at hd4))
          simp only [hd4] at C4
          have HC4 := hid C4
          have HC7 := hid C7
          clear C4 C7 hd4
          go_wp2
          refine wp_region_later (by kernel_rfl) (by kernel_rfl) ?_
          repeat (go_big_quiet_step (first | (go_at_call 55; exact Later.done (HC4.out _))))
          refine wpQuiet_nil ?_
          intro W2 hW2
          have HW2 := hid (HX.out.trans hW2)
          clear L1 L2 L3 M1 M2 M3 hW2
          go_wp2
          go_ret
          exact ⟨by rw [decide_eq_false HF.out]; rfl, HW2.out⟩
        | true =>
          have HE4 := hid hd4
          simp only [hd4] at C4
          have HC4 := hid C4
          clear C4 hd4
          cases hd7 : decide (xo = yo) with
          | false =>
            have HF : Hid (xs ≠ ys) := hid (ne_of_at HXK.out HYK.out (fun e => by
              simp at e
              obtain ⟨⟨e1, e2⟩, e3⟩ := e
              rw [e3] at hd7
              simp at hd7))
            simp only [hd7] at C7
            have HC7 := hid C7
            clear C7 hd7
            go_wp2
            refine wp_region_later (by kernel_rfl) (by kernel_rfl) ?_
            repeat (go_big_quiet_step (first | (go_at_call 55; exact Later.done (HC4.out _)) | (go_at_call 56; exact Later.done (HC7.out _))))
            refine wpQuiet_nil ?_
            intro W2 hW2
            have HW2 := hid (HX.out.trans hW2)
            clear L1 L2 L3 M1 M2 M3 hW2
            go_wp2
            go_ret
            exact ⟨by rw [decide_eq_false HF.out]; rfl, HW2.out⟩
          | true =>
            have HF : Hid (xs.take (k + 1) = ys.take (k + 1)) := hid (take_eq_succ HE.out HXK.out (by
              have h4 := HE4.out
              simp at h4 hd7
              rw [h4.1, h4.2, hd7]
              exact HYK.out))
            simp only [hd7] at C7
            have HC7 := hid C7
            clear C7 hd7
            go_wp2
            refine wp_region_later (by kernel_rfl) (by kernel_rfl) ?_
            repeat (go_big_quiet_step (first | (go_at_call 55; exact Later.done (HC4.out _)) | (go_at_call 56; exact Later.done (HC7.out _))))
            refine wpQuiet_nil ?_
            intro W2 hW2
            have HW2 := hid (HX.out.trans hW2)
            clear L1 L2 L3 M1 M2 M3 hW2
            go_wp2
            go_roundw
            case rel => exact ⟨k + 1, by omega, by go_num, HW2.out, HF⟩
            case measure => simp only [intOf]; omega
      · obtain rfl : k = na := by omega
        have HF : Hid (xs = ys) := hid (by have := HE.out; rwa [List.take_of_length_le (by rw [← HNA.out]; exact Nat.le_refl _), List.take_of_length_le (by rw [← HNB.out]; exact Nat.le_refl _)] at this)
        clear hx
        go_wp2
        go_ret
        exact ⟨by rw [decide_eq_true HF.out]; rfl, HX.out⟩
  · have hb : ((na : Int) != (nb : Int)) = true := by rw [bne_iff_ne]; omega
    have HF : Hid (xs ≠ ys) := hid (fun e => hne (by rw [HNA.out, HNB.out, e]))
    clear hne
    go_enter Tryz.func16, Tryz.ntmps16
    go_wp2
    go_ret
    exact ⟨by rw [decide_eq_false HF.out]; rfl, Ext.refl _⟩
end Go.Proofs.YthplgldclilccaaGreat

namespace Go.Proofs.YthplgldclilccaaGreat
open Go.RowKit

def tinyP (p : PZ) : Bool := decide (p.length ≤ 10) && p.all fun t => decide (t.1.natAbs ≤ 100) && mayM t.2
theorem tiny_bnd {p : PZ} (h : tinyP p = true) : bndP p 10 100 := by
  unfold tinyP at h
  simp only [Bool.and_eq_true, decide_eq_true_eq, List.all_eq_true] at h
  exact ⟨h.1, fun t ht => (h.2 t ht).1⟩
theorem tiny_may {p : PZ} (h : tinyP p = true) : mayAll p := by
  unfold tinyP at h
  simp only [Bool.and_eq_true, decide_eq_true_eq, List.all_eq_true] at h
  exact fun t ht => (h.2 t ht).2
theorem tiny_sz {p : PZ} (h : tinyP p = true) : szP p := sz_of_bnd (tiny_bnd h) (n := 3) (by omega) (by decide) (by omega)
theorem tiny_add {p q : PZ} (hp : tinyP p = true) (hq : tinyP q = true) (k : Nat) (_ : k ≤ q.length) : szP (addP p (q.take k)) := by
  have h1 := addP_bnd (l := q.take k) (N := 100) (tiny_bnd hp) (fun t ht => (tiny_bnd hq).2 t (List.mem_of_mem_take ht))
  have h2 : (q.take k).length ≤ 10 := Nat.le_trans (by rw [List.length_take]; omega) (tiny_bnd hq).1
  refine sz_of_bnd h1 (n := 5) (by omega) ?_ (by omega)
  have : (q.take k).length * 100 ≤ 10 * 100 := Nat.mul_le_mul_right _ h2
  omega
theorem tiny_mul {p q : PZ} (hp : tinyP p = true) (hq : tinyP q = true) : szM p q := by
  obtain ⟨a1, a2⟩ := tiny_bnd hp
  obtain ⟨b1, b2⟩ := tiny_bnd hq
  have h1 : p.length * q.length ≤ 10 * 10 := Nat.mul_le_mul a1 b1
  refine ⟨10000, 7, fun t ht u hu => ?_, by omega, ?_, by omega⟩
  · rw [Int.natAbs_mul]
    exact Nat.mul_le_mul (a2 t ht) (b2 u hu)
  · have : p.length * q.length * 10000 ≤ 100 * 10000 := Nat.mul_le_mul_right _ h1
    omega
theorem tiny_small {p : PZ} (h : tinyP p = true) : smallT (ofP p) := fun t ht => by
  obtain ⟨u, hu, rfl⟩ := List.mem_map.1 ht
  have h1 := (tiny_bnd h).2 u hu
  show (ofI u.1).mag.length ≤ _
  rw [ofI_len]
  exact Nat.le_trans (lenI_lt (k := 1) (by show u.1.natAbs < 4294967296 ^ 1; omega)) (by omega)
theorem tiny_lens {p : PZ} (h : tinyP p = true) : ∀ t ∈ ofP p, t.c.mag.length ≤ 1 := fun t ht => by
  obtain ⟨u, hu, rfl⟩ := List.mem_map.1 ht
  have h1 := (tiny_bnd h).2 u hu
  show (ofI u.1).mag.length ≤ _
  rw [ofI_len]
  exact lenI_lt (k := 1) (by show u.1.natAbs < 4294967296 ^ 1; omega)
abbrev k9X : PZ := [(1, [(1, 1)])]
abbrev k9Y : PZ := [(1, [(2, 1)])]
abbrev k9A : PZ := [(1, [(1, 1)]), (3, [])]
abbrev k9YY : PZ := [(1, [(2, 2)])]
abbrev k9B : PZ := [(1, [(1, 1), (2, 2)]), (3, [(2, 2)])]
abbrev k9C : PZ := [(5, [(1, 1)])]
abbrev k9P : PZ := [(1, [(1, 1), (2, 2)]), (3, [(2, 2)]), (5, [(1, 1)])]
abbrev k97 : PZ := [(7, [])]
theorem k9_3 : numP 3 = [(3, [])] := by kernel_rfl
theorem k9_5 : numP 5 = [(5, [])] := by kernel_rfl
theorem k9_7 : numP 7 = k97 := by kernel_rfl
theorem k9_a : addP k9X [(3, [])] = k9A := by kernel_rfl
theorem k9_yy : timesV (timesP k9Y k9Y) = k9YY := by kernel_rfl
theorem k9_b : timesV (timesP k9A k9YY) = k9B := by kernel_rfl
theorem k9_c : timesV (timesP [(5, [])] k9X) = k9C := by kernel_rfl
theorem k9_p : addP k9B k9C = k9P := by kernel_rfl
theorem k9P_can : canP k9P := by
  rw [← k9_p]
  refine (addP_can (p := k9B) ?_ (tiny_may (by kernel_rfl))).1
  exact ⟨fun t ht => by simp at ht; rcases ht with rfl | rfl <;> exact ⟨by decide, by kernel_rfl⟩, by simp; kernel_rfl⟩
theorem k97_can : canP k97 := ⟨fun t ht => by simp at ht; subst ht; exact ⟨by decide, by kernel_rfl⟩, List.pairwise_singleton _ _⟩
theorem k9_i : initP k9P = k9A := by kernel_rfl
theorem k9_t : (ofP (tailP k9P)).length = 1 := by kernel_rfl
theorem k9_d : (ofP (derP k9P 2)).length = 2 := by kernel_rfl
theorem k9_l : leadP k9P = 2 := by kernel_rfl
theorem k9_l7 : leadP k97 = 0 := by kernel_rfl

set_option maxRecDepth 100000 in
set_option maxHeartbeats 8000000 in
theorem law09_known (w : World) :
    Calls Tryz.prog 19 #[] w fun e w' => e = .returned (.bool true) ∧ Ext w w' := by
  have hnot : ∀ (x : Bool) (w : World), (Op.unary .not (.bool x)).run Tryz.prog w = .ok (.bool (!x)) w := fun _ _ => rfl
  have PC := plainP_ofP k9P_can
  have P7 := plainP_ofP k97_can
  have HPC := hid PC
  have HP7 := hid P7
  clear PC P7
  go_enter Tryz.func19, Tryz.ntmps19
  have HX0 := hid (Ext.refl w)
  go_wp2_with fail
  refine (rpoly_x 1 w (by unfold inI64; omega)).mono ?_
  rintro e w1 ⟨v1, rfl, hp1, hx1⟩
  have HX1 := hid (HX0.out.trans hx1)
  have HJ1 := hid (RTs.old hp1 New.lt)
  obtain ⟨a1, c1, rfl⟩ := hp1.form
  clear hx1 hp1
  go_wp2_with fail
  refine (rpoly_x 2 w1 (by unfold inI64; omega)).mono ?_
  rintro e w2 ⟨v2, rfl, hp2, hx2⟩
  have HX2 := hid (HX1.out.trans hx2)
  have HJ2 := hid (RTs.on HJ1.out hx2)
  have HY2 := hid (RTs.old hp2 New.lt)
  obtain ⟨a2, c2, rfl⟩ := hp2.form
  clear hx2 hp2
  go_wp2_with fail
  refine (rpoly_small 3 w2 (by omega)).mono ?_
  rw [k9_3]
  rintro e w3 ⟨v3, rfl, hp3, hx3⟩
  have HX3 := hid (HX2.out.trans hx3)
  have HJ3 := hid (RTs.on HJ2.out hx3)
  have HY3 := hid (RTs.on HY2.out hx3)
  have HS3 := hid (RTs.old hp3 New.lt)
  obtain ⟨a3, c3, rfl⟩ := hp3.form
  clear hx3 hp3
  go_wp2_with fail
  refine (rpoly_add (S := Old w3) _ _ k9X [(3, [])] w3 (fun _ h => h) HJ3.out HS3.out (tiny_may (by kernel_rfl)) (tiny_may (by kernel_rfl)) (tiny_sz (by kernel_rfl)) (tiny_add (by kernel_rfl) (by kernel_rfl))).mono ?_
  rw [k9_a]
  rintro e w4 ⟨v4, rfl, hp4, hx4⟩
  have HX4 := hid (HX3.out.trans hx4)
  have HJ4 := hid (RTs.on HJ3.out hx4)
  have HY4 := hid (RTs.on HY3.out hx4)
  have HA4 := hid (RTs.old hp4 (plus_lt (fun _ h => h) hx4))
  obtain ⟨a4, c4, rfl⟩ := hp4.form
  clear hx4 hp4
  go_wp2_with fail
  refine (rpoly_mul (S := Old w4) _ _ k9Y k9Y w4 (fun _ h => h) HY4.out HY4.out (tiny_may (by kernel_rfl)) (tiny_may (by kernel_rfl)) (tiny_sz (by kernel_rfl)) (tiny_sz (by kernel_rfl)) (tiny_mul (by kernel_rfl) (by kernel_rfl))).mono ?_
  rw [k9_yy]
  rintro e w5 ⟨v5, rfl, hp5, hx5⟩
  have HX5 := hid (HX4.out.trans hx5)
  have HJ5 := hid (RTs.on HJ4.out hx5)
  have HA5 := hid (RTs.on HA4.out hx5)
  have HQ5 := hid (RTs.old hp5 (plus_lt (fun _ h => h) hx5))
  obtain ⟨a5, c5, rfl⟩ := hp5.form
  clear hx5 hp5
  go_wp2_with fail
  refine (rpoly_mul (S := Old w5) _ _ k9A k9YY w5 (fun _ h => h) HA5.out HQ5.out (tiny_may (by kernel_rfl)) (tiny_may (by kernel_rfl)) (tiny_sz (by kernel_rfl)) (tiny_sz (by kernel_rfl)) (tiny_mul (by kernel_rfl) (by kernel_rfl))).mono ?_
  rw [k9_b]
  rintro e w6 ⟨v6, rfl, hp6, hx6⟩
  have HX6 := hid (HX5.out.trans hx6)
  have HJ6 := hid (RTs.on HJ5.out hx6)
  have HB6 := hid (RTs.old hp6 (plus_lt (fun _ h => h) hx6))
  obtain ⟨a6, c6, rfl⟩ := hp6.form
  clear hx6 hp6
  go_wp2_with fail
  refine (rpoly_small 5 w6 (by omega)).mono ?_
  rw [k9_5]
  rintro e w7 ⟨v7, rfl, hp7, hx7⟩
  have HX7 := hid (HX6.out.trans hx7)
  have HJ7 := hid (RTs.on HJ6.out hx7)
  have HB7 := hid (RTs.on HB6.out hx7)
  have HF7 := hid (RTs.old hp7 New.lt)
  obtain ⟨a7, c7, rfl⟩ := hp7.form
  clear hx7 hp7
  go_wp2_with fail
  refine (rpoly_mul (S := Old w7) _ _ [(5, [])] k9X w7 (fun _ h => h) HF7.out HJ7.out (tiny_may (by kernel_rfl)) (tiny_may (by kernel_rfl)) (tiny_sz (by kernel_rfl)) (tiny_sz (by kernel_rfl)) (tiny_mul (by kernel_rfl) (by kernel_rfl))).mono ?_
  rw [k9_c]
  rintro e w8 ⟨v8, rfl, hp8, hx8⟩
  have HX8 := hid (HX7.out.trans hx8)
  have HJ8 := hid (RTs.on HJ7.out hx8)
  have HB8 := hid (RTs.on HB7.out hx8)
  have HC8 := hid (RTs.old hp8 (plus_lt (fun _ h => h) hx8))
  obtain ⟨a8, c8, rfl⟩ := hp8.form
  clear hx8 hp8
  go_wp2_with fail
  refine (rpoly_add (S := Old w8) _ _ k9B k9C w8 (fun _ h => h) HB8.out HC8.out (tiny_may (by kernel_rfl)) (tiny_may (by kernel_rfl)) (tiny_sz (by kernel_rfl)) (tiny_add (by kernel_rfl) (by kernel_rfl))).mono ?_
  rw [k9_p]
  rintro e w9 ⟨v9, rfl, hp9, hx9⟩
  have HX9 := hid (HX8.out.trans hx9)
  have HJ9 := hid (RTs.on HJ8.out hx9)
  have HP9 := hid (RTs.old hp9 (plus_lt (fun _ h => h) hx9))
  obtain ⟨a9, c9, rfl⟩ := hp9.form
  clear hx9 hp9
  go_wp2_with fail
  refine (rpoly_poly (S := Old w9) _ k9P w9 HP9.out (fun _ h => h) (tiny_sz (by kernel_rfl)) (kn_len (tiny_may (by kernel_rfl)))).mono ?_
  rintro e w10 ⟨v10, rfl, hp10, hx10⟩
  have HX10 := hid (HX9.out.trans hx10)
  have HJ10 := hid (RTs.on HJ9.out hx10)
  have HP10 := hid (RTs.on HP9.out hx10)
  have HG10 := hid (Terms.old hp10 New.lt)
  obtain ⟨a10, c10, rfl⟩ := hp10.form
  clear hx10 hp10
  go_wp2_with fail
  refine (view_initial _ (ofP k9P) _ HG10.out (fun _ h => h) (tiny_small (by kernel_rfl)) (by decide)).mono ?_
  rw [HPC.out, k9_i]
  rintro e w11 ⟨v11, rfl, hp11, hx11⟩
  have HX11 := hid (HX10.out.trans hx11)
  have HJ11 := hid (RTs.on HJ10.out hx11)
  have HP11 := hid (RTs.on HP10.out hx11)
  have HI11 := hid (Terms.old hp11 New.lt)
  obtain ⟨a11, c11, rfl⟩ := hp11.form
  clear hx11 hp11
  go_wp2_with fail
  refine (rpoly_poly (S := Old w11) _ k9P w11 HP11.out (fun _ h => h) (tiny_sz (by kernel_rfl)) (kn_len (tiny_may (by kernel_rfl)))).mono ?_
  rintro e w12 ⟨v12, rfl, hp12, hx12⟩
  have HX12 := hid (HX11.out.trans hx12)
  have HJ12 := hid (RTs.on HJ11.out hx12)
  have HP12 := hid (RTs.on HP11.out hx12)
  have HI12 := hid (Terms.on HI11.out hx12)
  have HG12 := hid (Terms.old hp12 New.lt)
  obtain ⟨a12, c12, rfl⟩ := hp12.form
  clear hx12 hp12
  go_wp2_with fail
  refine (view_class _ (ofP k9P) _ HG12.out (fun _ h => h) (tiny_small (by kernel_rfl))).mono ?_
  rw [HPC.out, k9_l]
  rintro e w13 ⟨rfl, hx13⟩
  have HX13 := hid (HX12.out.trans hx13)
  have HJ13 := hid (RTs.on HJ12.out hx13)
  have HP13 := hid (RTs.on HP12.out hx13)
  have HI13 := hid (Terms.on HI12.out hx13)
  clear hx13
  go_wp2_with fail
  refine (rpoly_small 3 w13 (by omega)).mono ?_
  rw [k9_3]
  rintro e w14 ⟨v14, rfl, hp14, hx14⟩
  have HX14 := hid (HX13.out.trans hx14)
  have HJ14 := hid (RTs.on HJ13.out hx14)
  have HP14 := hid (RTs.on HP13.out hx14)
  have HI14 := hid (Terms.on HI13.out hx14)
  have HS14 := hid (RTs.old hp14 New.lt)
  obtain ⟨a14, c14, rfl⟩ := hp14.form
  clear hx14 hp14
  go_wp2_with fail
  refine (rpoly_add (S := Old w14) _ _ k9X [(3, [])] w14 (fun _ h => h) HJ14.out HS14.out (tiny_may (by kernel_rfl)) (tiny_may (by kernel_rfl)) (tiny_sz (by kernel_rfl)) (tiny_add (by kernel_rfl) (by kernel_rfl))).mono ?_
  rw [k9_a]
  rintro e w15 ⟨v15, rfl, hp15, hx15⟩
  have HX15 := hid (HX14.out.trans hx15)
  have HP15 := hid (RTs.on HP14.out hx15)
  have HI15 := hid (Terms.on HI14.out hx15)
  have HA15 := hid (RTs.old hp15 (plus_lt (fun _ h => h) hx15))
  obtain ⟨a15, c15, rfl⟩ := hp15.form
  clear hx15 hp15
  go_wp2_with fail
  refine (rpoly_poly (S := Old w15) _ k9A w15 HA15.out (fun _ h => h) (tiny_sz (by kernel_rfl)) (kn_len (tiny_may (by kernel_rfl)))).mono ?_
  rintro e w16 ⟨v16, rfl, hp16, hx16⟩
  have HX16 := hid (HX15.out.trans hx16)
  have HP16 := hid (RTs.on HP15.out hx16)
  have HI16 := hid (Terms.on HI15.out hx16)
  have HG16 := hid (Terms.old hp16 New.lt)
  obtain ⟨a16, c16, rfl⟩ := hp16.form
  clear hx16 hp16
  go_wp2_with fail
  refine (rpoly_same _ _ (ofP k9A) (ofP k9A) _ HI16.out HG16.out (fun _ h => h)).mono ?_
  rw [show decide (ofP k9A = ofP k9A) = true from decide_eq_true rfl]
  rintro e w17 ⟨rfl, hx17⟩
  have HX17 := hid (HX16.out.trans hx17)
  have HP17 := hid (RTs.on HP16.out hx17)
  clear hx17
  go_wp2_with fail
  refine (rpoly_poly (S := Old w17) _ k9P w17 HP17.out (fun _ h => h) (tiny_sz (by kernel_rfl)) (kn_len (tiny_may (by kernel_rfl)))).mono ?_
  rintro e w18 ⟨v18, rfl, hp18, hx18⟩
  have HX18 := hid (HX17.out.trans hx18)
  have HP18 := hid (RTs.on HP17.out hx18)
  have HG18 := hid (Terms.old hp18 New.lt)
  obtain ⟨a18, c18, rfl⟩ := hp18.form
  clear hx18 hp18
  go_wp2_with fail
  refine (view_tail _ (ofP k9P) _ HG18.out (fun _ h => h) (tiny_small (by kernel_rfl)) (by decide)).mono ?_
  rw [HPC.out]
  rintro e w19 ⟨v19, rfl, hp19, hx19⟩
  have HX19 := hid (HX18.out.trans hx19)
  have HP19 := hid (RTs.on HP18.out hx19)
  have HU19 := hid (Terms.old hp19 New.lt)
  obtain ⟨a19, c19, rfl⟩ := hp19.form
  clear hx19 hp19
  rw [k9_t]
  go_wp2_with fail
  refine (rpoly_poly (S := Old w19) _ k9P w19 HP19.out (fun _ h => h) (tiny_sz (by kernel_rfl)) (kn_len (tiny_may (by kernel_rfl)))).mono ?_
  rintro e w20 ⟨v20, rfl, hp20, hx20⟩
  have HX20 := hid (HX19.out.trans hx20)
  have HG20 := hid (Terms.old hp20 New.lt)
  obtain ⟨a20, c20, rfl⟩ := hp20.form
  clear hx20 hp20
  go_wp2_with fail
  refine (view_derive _ (ofP k9P) 2 _ 1 HG20.out (fun _ h => h) (tiny_lens (by kernel_rfl)) (by omega) (by decide) (by unfold inI64; omega)).mono ?_
  rw [HPC.out]
  rintro e w21 ⟨v21, rfl, hp21, hx21⟩
  have HX21 := hid (HX20.out.trans hx21)
  have HU21 := hid (Terms.old hp21 New.lt)
  obtain ⟨a21, c21, rfl⟩ := hp21.form
  clear hx21 hp21
  rw [k9_d]
  go_wp2_with fail
  refine (rpoly_small 7 w21 (by omega)).mono ?_
  rw [k9_7]
  rintro e w22 ⟨v22, rfl, hp22, hx22⟩
  have HX22 := hid (HX21.out.trans hx22)
  have HZ22 := hid (RTs.old hp22 New.lt)
  obtain ⟨a22, c22, rfl⟩ := hp22.form
  clear hx22 hp22
  go_wp2_with fail
  refine (rpoly_poly (S := Old w22) _ k97 w22 HZ22.out (fun _ h => h) (tiny_sz (by kernel_rfl)) (kn_len (tiny_may (by kernel_rfl)))).mono ?_
  rintro e w23 ⟨v23, rfl, hp23, hx23⟩
  have HX23 := hid (HX22.out.trans hx23)
  have HG23 := hid (Terms.old hp23 New.lt)
  obtain ⟨a23, c23, rfl⟩ := hp23.form
  clear hx23 hp23
  go_wp2_with fail
  refine (view_class _ (ofP k97) _ HG23.out (fun _ h => h) (tiny_small (by kernel_rfl))).mono ?_
  rw [HP7.out, k9_l7]
  rintro e w24 ⟨rfl, hx24⟩
  have HX24 := hid (HX23.out.trans hx24)
  clear hx24
  go_wp2
  all_goals
    go_ret
    exact ⟨rfl, HX24.out⟩
end Go.Proofs.YthplgldclilccaaGreat

namespace Go.Proofs.YthplgldclilccaaGreat
open Go.RowKit

theorem coefs_fit {p : PZ} {k n : Nat} (h : Fit k n p) (v : Int) : ∀ q ∈ coefsP p v, Fit k n q := fun q hq => by
  unfold coefsP at hq
  split at hq
  · simp at hq
  · obtain ⟨e, -, rfl⟩ := List.mem_map.1 hq
    exact h.coef v _
theorem coefs_len (p : PZ) (v : Int) : (coefsP p v).length ≤ (degP p v).toNat + 1 := by
  unfold coefsP
  split
  · simp
  · rw [List.length_map, List.length_range]; exact Nat.le_refl _

set_option maxRecDepth 100000 in
set_option maxHeartbeats 8000000 in
theorem law_back (vp : Value) (ps : List RTerm) (x : Int) (w : World) (hp : Terms (Old w) w vp ps) (hx : inI64 x) :
    Calls Tryz.prog 7 #[vp, .int .i64 x] w fun e w' => e = .returned (.bool true) ∧ Ext w w' := by
  have hnot : ∀ (x : Bool) (w : World), (Op.unary .not (.bool x)).run Tryz.prog w = .ok (.bool (!x)) w := fun _ _ => rfl
  have HX0 := hid (Ext.refl w)
  have HXI := hid hx
  have CG := rpoly_great vp ps 20 w hp (fun _ h => h) (by omega)
  unfold inI64 at hx
  obtain ⟨hxl, hxu⟩ := hx
  cases hg : greatT 20 ps with
  | true =>
    rw [hg] at CG
    obtain ⟨ap, cp, rfl⟩ := hp.form
    have HCG := hid CG
    clear CG hg hp
    go_enter Tryz.func7, Tryz.ntmps7
    go_wp2_with fail
    with_reducible refine (HCG.out).mono ?_
    rintro e w1 ⟨rfl, hx1⟩
    have HX1 := hid (HX0.out.trans hx1)
    clear hx1
    go_wp2_with fail
    with_reducible refine (law09_known w1).mono ?_
    rintro e w2 ⟨rfl, hx2⟩
    have HX2 := hid (HX1.out.trans hx2)
    clear hx2
    go_wp2
    all_goals
      go_ret
      exact ⟨rfl, HX2.out⟩
  | false =>
    rw [hg] at CG
    have HFP := hid (great_fit (n := 20) hg)
    clear hg
    have hsp : smallT ps := fun t ht => Nat.le_trans (HFP.out.2 t ht).1 (by decide)
    have CM := fun (W : World) (hW : Ext w W) => poly_may vp ps W (hp.on hW) (fun _ h => h) hsp
    cases hm : mayT ps with
    | false =>
      simp only [hm] at CM
      obtain ⟨ap, cp, rfl⟩ := hp.form
      have HCG := hid CG
      have HCM := hid CM
      clear CG CM hm hp hsp
      go_enter Tryz.func7, Tryz.ntmps7
      go_wp2_with fail
      with_reducible refine (HCG.out).mono ?_
      rintro e w1 ⟨rfl, hx1⟩
      have HX1 := hid (HX0.out.trans hx1)
      clear hx1
      go_wp2_with fail
      with_reducible refine (HCM.out _ HX1.out).mono ?_
      rintro e w2 ⟨rfl, hx2⟩
      have HX2 := hid (HX1.out.trans hx2)
      clear hx2
      go_wp2_with fail
      with_reducible refine (law09_known w2).mono ?_
      rintro e w3 ⟨rfl, hx3⟩
      have HX3 := hid (HX2.out.trans hx3)
      clear hx3
      go_wp2
      all_goals
        go_ret
        exact ⟨rfl, HX3.out⟩
    | true =>
      simp only [hm] at CM
      obtain ⟨P, rfl, fP⟩ : ∃ P, ps = ofP P ∧ Fit 20 20 P := ⟨_, pv_of hp hm, fit_plain (k := 20) (n := 20) hp.okT (fun t ht => (HFP.out.2 t ht).1) HFP.out.1⟩
      clear hm hsp
      by_cases hx1 : x < 1
      · have q1 : decide (x < 1) = true := decide_eq_true hx1
        obtain ⟨ap, cp, rfl⟩ := hp.form
        have HCG := hid CG
        have HCM := hid CM
        clear CG CM hp
        go_enter Tryz.func7, Tryz.ntmps7
        go_wp2_with fail
        with_reducible refine (HCG.out).mono ?_
        rintro e w1 ⟨rfl, hx1⟩
        have HX1 := hid (HX0.out.trans hx1)
        clear hx1
        go_wp2_with fail
        with_reducible refine (HCM.out _ HX1.out).mono ?_
        rintro e w2 ⟨rfl, hx2⟩
        have HX2 := hid (HX1.out.trans hx2)
        clear hx2
        go_wp2_with fail
        with_reducible refine (law09_known w2).mono ?_
        rintro e w3 ⟨rfl, hx3⟩
        have HX3 := hid (HX2.out.trans hx3)
        clear hx3
        go_wp2
        all_goals
          go_ret
          exact ⟨rfl, HX3.out⟩
      · by_cases hx2 : 200 < x
        · have q1 : decide (x < 1) = false := decide_eq_false hx1
          have q2 : decide (200 < x) = true := decide_eq_true hx2
          obtain ⟨ap, cp, rfl⟩ := hp.form
          have HCG := hid CG
          have HCM := hid CM
          clear CG CM hp
          go_enter Tryz.func7, Tryz.ntmps7
          go_wp2_with fail
          with_reducible refine (HCG.out).mono ?_
          rintro e w1 ⟨rfl, hx1⟩
          have HX1 := hid (HX0.out.trans hx1)
          clear hx1
          go_wp2_with fail
          with_reducible refine (HCM.out _ HX1.out).mono ?_
          rintro e w2 ⟨rfl, hx2⟩
          have HX2 := hid (HX1.out.trans hx2)
          clear hx2
          go_wp2_with fail
          with_reducible refine (law09_known w2).mono ?_
          rintro e w3 ⟨rfl, hx3⟩
          have HX3 := hid (HX2.out.trans hx3)
          clear hx3
          go_wp2
          all_goals
            go_ret
            exact ⟨rfl, HX3.out⟩
        · have q1 : decide (x < 1) = false := decide_eq_false hx1
          have q2 : decide (200 < x) = false := decide_eq_false hx2
          have hxv : 1 ≤ x ∧ x ≤ 200 := by omega
          have dP := degP_range fP.can.may x
          have CD := hid (fun (W : World) (u : Value) (hu : PV W u P) => z_degree hu fP (by decide) HXI.out)
          by_cases h50 : 50 < degP P x
          · have q3 : decide (50 < degP P x) = true := decide_eq_true h50
            have HP0 := hid hp
            obtain ⟨ap, cp, rfl⟩ := hp.form
            have HCG := hid CG
            have HCM := hid CM
            generalize degP P x = dx at *
            clear CG CM hp
            go_enter Tryz.func7, Tryz.ntmps7
            go_wp2_with fail
            with_reducible refine (HCG.out).mono ?_
            rintro e w1 ⟨rfl, hx1⟩
            have HX1 := hid (HX0.out.trans hx1)
            have HP1 := hid (Terms.on HP0.out hx1)
            clear hx1
            go_wp2_with fail
            with_reducible refine (HCM.out _ HX1.out).mono ?_
            rintro e w2 ⟨rfl, hx2⟩
            have HX2 := hid (HX1.out.trans hx2)
            have HP2 := hid (Terms.on HP1.out hx2)
            clear hx2
            go_wp2_with fail
            with_reducible refine (CD.out _ _ HP2.out).mono ?_
            rintro e w3 ⟨rfl, hx3⟩
            have HX3 := hid (HX2.out.trans hx3)
            clear hx3
            go_wp2_with fail
            with_reducible refine (law09_known w3).mono ?_
            rintro e w4 ⟨rfl, hx4⟩
            have HX4 := hid (HX3.out.trans hx4)
            clear hx4
            go_wp2
            all_goals
              go_ret
              exact ⟨rfl, HX4.out⟩
          · have q3 : decide (50 < degP P x) = false := decide_eq_false h50
            have cP := fP.can
            have bB := build_back cP hxv
            have fl := coefs_fit fP x
            have ll : (coefsP P x).length ≤ 1000 := Nat.le_trans (coefs_len P x) (by omega)
            have B1 := hid (fun (W : World) (u : Value) (hu : PV W u P) => z_coefs hu fP (by decide) (by decide) hxv)
            have B2 := hid (fun (W : World) (u : Value) (hu : PVs W u (coefsP P x)) => z_build hu fl (by decide) (by decide) ll hxv)
            simp only [bB] at B2
            have B3 := hid (fun (W : World) (u v : Value) (hu : PV W u P) (hv : PV W v P) => z_same hu hv)
            simp only [decide_true] at B3
            have B4 := hid (fun (W : World) (u : Value) (hu : PV W u P) => z_class hu fP (by decide))
            have B5 := hid (fun (W : World) (u : Value) (hu : PV W u P) => z_tail hu fP (by decide) (by decide))
            have B6 := hid (fun (W : World) (u : Value) (hu : PV W u P) => z_initial hu fP (by decide) (by decide))
            have hlr := leadP_range cP
            by_cases h0 : leadP P = 0
            · have e1 := tail_none cP h0
              have e2 : initP P = P := by unfold initP; rw [if_pos h0]
              rw [e1] at B5
              rw [e2] at B6
              have e3 : (ofP []).length = 0 := rfl
              have HP0 := hid hp
              obtain ⟨ap, cp, rfl⟩ := hp.form
              have HCG := hid CG
              have HCM := hid CM
              generalize coefsP P x = cl at *
              generalize degP P x = dx at *
              generalize leadP P = lx at *
              clear CG CM hp bB fl ll e1 e2 cP fP hlr dP
              subst h0
              go_enter Tryz.func7, Tryz.ntmps7
              go_wp2_with fail
              with_reducible refine (HCG.out).mono ?_
              rintro e w1 ⟨rfl, hx1⟩
              have HX1 := hid (HX0.out.trans hx1)
              have HP1 := hid (Terms.on HP0.out hx1)
              clear hx1
              go_wp2_with fail
              with_reducible refine (HCM.out _ HX1.out).mono ?_
              rintro e w2 ⟨rfl, hx2⟩
              have HX2 := hid (HX1.out.trans hx2)
              have HP2 := hid (Terms.on HP1.out hx2)
              clear hx2
              go_wp2_with fail
              with_reducible refine (CD.out _ _ HP2.out).mono ?_
              rintro e w3 ⟨rfl, hx3⟩
              have HX3 := hid (HX2.out.trans hx3)
              have HP3 := hid (Terms.on HP2.out hx3)
              clear hx3
              go_wp2_with fail
              with_reducible refine (B1.out _ _ HP3.out).mono ?_
              rintro e w4 ⟨v4, rfl, hp4, hx4⟩
              have HX4 := hid (HX3.out.trans hx4)
              have HP4 := hid (Terms.on HP3.out hx4)
              have HL4 := hid (hp4.to (S' := Old w4) (Kept.refl _ _) New.lt)
              have hle4 := hp4.len_le
              obtain ⟨a4, c4, rfl⟩ := hp4.form
              obtain ⟨nl, hnl⟩ : ∃ n, n = (cl.map ofP).length := ⟨_, rfl⟩
              rw [← hnl] at HL4 hle4 ⊢
              have Hnl := hid hnl
              clear hnl
              clear hx4 hp4
              go_wp2_with fail
              with_reducible refine (B2.out _ _ HL4.out).mono ?_
              rintro e w5 ⟨v5, rfl, hp5, hx5⟩
              have HX5 := hid (HX4.out.trans hx5)
              have HP5 := hid (Terms.on HP4.out hx5)
              have HQ5 := hid (hp5.to (S' := Old w5) (Kept.refl _ _) New.lt)
              obtain ⟨a5, c5, rfl⟩ := hp5.form
              clear hx5 hp5
              go_wp2_with fail
              with_reducible refine (B3.out _ _ _ HQ5.out HP5.out).mono ?_
              rintro e w6 ⟨rfl, hx6⟩
              have HX6 := hid (HX5.out.trans hx6)
              have HP6 := hid (Terms.on HP5.out hx6)
              clear hx6
              go_wp2_with fail
              with_reducible refine (B4.out _ _ HP6.out).mono ?_
              rintro e w7 ⟨rfl, hx7⟩
              have HX7 := hid (HX6.out.trans hx7)
              have HP7 := hid (Terms.on HP6.out hx7)
              clear hx7
              go_wp2_with fail
              with_reducible refine (B5.out _ _ HP7.out).mono ?_
              rintro e w8 ⟨v8, rfl, hp8, hx8⟩
              have HX8 := hid (HX7.out.trans hx8)
              have HP8 := hid (Terms.on HP7.out hx8)
              have HT8 := hid (hp8.to (S' := Old w8) (Kept.refl _ _) New.lt)
              obtain ⟨a8, c8, rfl⟩ := hp8.form
              clear hx8 hp8
              rw [e3]
              go_wp2_with fail
              with_reducible refine (B6.out _ _ HP8.out).mono ?_
              rintro e w9 ⟨v9, rfl, hp9, hx9⟩
              have HX9 := hid (HX8.out.trans hx9)
              have HP9 := hid (Terms.on HP8.out hx9)
              have HI9 := hid (hp9.to (S' := Old w9) (Kept.refl _ _) New.lt)
              obtain ⟨a9, c9, rfl⟩ := hp9.form
              clear hx9 hp9
              go_wp2_with fail
              with_reducible refine (B3.out _ _ _ HI9.out HP9.out).mono ?_
              rintro e w10 ⟨rfl, hx10⟩
              have HX10 := hid (HX9.out.trans hx10)
              clear hx10
              go_wp2_with fail
              with_reducible refine (law09_known w10).mono ?_
              rintro e w11 ⟨rfl, hx11⟩
              have HX11 := hid (HX10.out.trans hx11)
              clear hx11
              go_wp2
              all_goals
                go_ret
                exact ⟨rfl, HX11.out⟩
            · have h1 : 0 < leadP P := by omega
              have q4 : (leadP P == 0) = false := by rw [beq_eq_false_iff_ne]; exact h0
              obtain ⟨Y, hY, hYP⟩ := init_back cP h1
              have hd1 := deg_lead_pos cP h1
              have hdr := degP_range cP.may (leadP P)
              have fV : Fit 1 1 [(1, [(leadP P, degP P (leadP P))])] := by
                have h := fit_pow (v := leadP P) (by omega) (i := (degP P (leadP P)).toNat) (by omega)
                unfold powP at h
                rw [if_neg (by omega), show (((degP P (leadP P)).toNat : Nat) : Int) = degP P (leadP P) by omega] at h
                exact h
              have B7 := hid (fun (W : World) (u : Value) (hu : PV W u P) => z_degree hu fP (by decide) (x := leadP P) (by unfold inI64; omega))
              have B8 := hid (fun (W : World) => z_var W (leadP P) (degP P (leadP P)) (by omega) (by omega))
              have B9 := hid (fun (W : World) (u v : Value) (hu : PV W u (initP P)) (hv : PV W v [(1, [(leadP P, degP P (leadP P))])]) => z_times hu hv fP.init fV (.inl (by decide)) (by decide) (by decide) (by decide))
              simp only [hY] at B9
              have fY := fP.init.times fV hY (by decide)
              have D1 := hid (fun (W : World) (u v : Value) (hu : PV W u Y) (hv : PV W v (tailP P)) => z_add hu hv (fY.mono (l := 50) (m := 20) (by decide) (by decide)) (fP.tail.mono (l := 50) (m := 20) (by decide) (by decide)) (by decide) (by decide) (by decide))
              simp only [hYP] at D1
              have D2 := hid (fun (W : World) (u : Value) (hu : PV W u (initP P)) => z_class hu fP.init (by decide))
              have D3 := hid (fun (W : World) (u : Value) (hu : PV W u (tailP P)) => z_degree hu fP.tail (by decide) (x := leadP P) (by unfold inI64; omega))
              have q5 : decide (leadP (initP P) < leadP P) = true := decide_eq_true (initP_lead cP h1)
              have q6 : decide (degP (tailP P) (leadP P) < degP P (leadP P)) = true := decide_eq_true (tailP_deg cP h1)
              have q7 : decide (0 < degP P (leadP P)) = true := decide_eq_true hd1
              have hni : 0 < (ofP (initP P)).length := by rw [ofP_len]; exact List.length_pos_iff.2 (init_ne cP h1)
              have HP0 := hid hp
              obtain ⟨ap, cp, rfl⟩ := hp.form
              have HCG := hid CG
              have HCM := hid CM
              unfold OkPoly at B8
              generalize [(1, [(leadP P, degP P (leadP P))])] = V at *
              generalize coefsP P x = cl at *
              generalize degP P x = dx at *
              generalize degP (tailP P) (leadP P) = dt at *
              generalize degP P (leadP P) = dl at *
              generalize leadP (initP P) = li at *
              generalize leadP P = lx at *
              clear CG CM hp bB fl ll cP fP fV fY hY hYP hlr dP
              go_enter Tryz.func7, Tryz.ntmps7
              go_wp2_with fail
              with_reducible refine (HCG.out).mono ?_
              rintro e w1 ⟨rfl, hx1⟩
              have HX1 := hid (HX0.out.trans hx1)
              have HP1 := hid (Terms.on HP0.out hx1)
              clear hx1
              go_wp2_with fail
              with_reducible refine (HCM.out _ HX1.out).mono ?_
              rintro e w2 ⟨rfl, hx2⟩
              have HX2 := hid (HX1.out.trans hx2)
              have HP2 := hid (Terms.on HP1.out hx2)
              clear hx2
              go_wp2_with fail
              with_reducible refine (CD.out _ _ HP2.out).mono ?_
              rintro e w3 ⟨rfl, hx3⟩
              have HX3 := hid (HX2.out.trans hx3)
              have HP3 := hid (Terms.on HP2.out hx3)
              clear hx3
              go_wp2_with fail
              with_reducible refine (B1.out _ _ HP3.out).mono ?_
              rintro e w4 ⟨v4, rfl, hp4, hx4⟩
              have HX4 := hid (HX3.out.trans hx4)
              have HP4 := hid (Terms.on HP3.out hx4)
              have HL4 := hid (hp4.to (S' := Old w4) (Kept.refl _ _) New.lt)
              have hle4 := hp4.len_le
              obtain ⟨a4, c4, rfl⟩ := hp4.form
              obtain ⟨nl, hnl⟩ : ∃ n, n = (cl.map ofP).length := ⟨_, rfl⟩
              rw [← hnl] at HL4 hle4 ⊢
              have Hnl := hid hnl
              clear hnl
              clear hx4 hp4
              go_wp2_with fail
              with_reducible refine (B2.out _ _ HL4.out).mono ?_
              rintro e w5 ⟨v5, rfl, hp5, hx5⟩
              have HX5 := hid (HX4.out.trans hx5)
              have HP5 := hid (Terms.on HP4.out hx5)
              have HQ5 := hid (hp5.to (S' := Old w5) (Kept.refl _ _) New.lt)
              obtain ⟨a5, c5, rfl⟩ := hp5.form
              clear hx5 hp5
              go_wp2_with fail
              with_reducible refine (B3.out _ _ _ HQ5.out HP5.out).mono ?_
              rintro e w6 ⟨rfl, hx6⟩
              have HX6 := hid (HX5.out.trans hx6)
              have HP6 := hid (Terms.on HP5.out hx6)
              clear hx6
              go_wp2_with fail
              with_reducible refine (B4.out _ _ HP6.out).mono ?_
              rintro e w7 ⟨rfl, hx7⟩
              have HX7 := hid (HX6.out.trans hx7)
              have HP7 := hid (Terms.on HP6.out hx7)
              clear hx7
              go_wp2_with fail
              with_reducible refine (B7.out _ _ HP7.out).mono ?_
              rintro e w8 ⟨rfl, hx8⟩
              have HX8 := hid (HX7.out.trans hx8)
              have HP8 := hid (Terms.on HP7.out hx8)
              clear hx8
              go_wp2_with fail
              with_reducible refine (B8.out w8).mono ?_
              rintro e w9 ⟨v9, rfl, hp9, hx9⟩
              have HX9 := hid (HX8.out.trans hx9)
              have HP9 := hid (Terms.on HP8.out hx9)
              have HV9 := hid (hp9.to (S' := Old w9) (Kept.refl _ _) New.lt)
              obtain ⟨a9, c9, rfl⟩ := hp9.form
              clear hx9 hp9
              go_wp2_with fail
              with_reducible refine (B6.out _ _ HP9.out).mono ?_
              rintro e w10 ⟨v10, rfl, hp10, hx10⟩
              have HX10 := hid (HX9.out.trans hx10)
              have HP10 := hid (Terms.on HP9.out hx10)
              have HV10 := hid (Terms.on HV9.out hx10)
              have HI10 := hid (hp10.to (S' := Old w10) (Kept.refl _ _) New.lt)
              have hle10 := hp10.len_le
              obtain ⟨a10, c10, rfl⟩ := hp10.form
              obtain ⟨ni, hni⟩ : ∃ n, n = (ofP (initP P)).length := ⟨_, rfl⟩
              rw [← hni] at HI10 hle10 ⊢
              have Hni := hid hni
              clear hni
              clear hx10 hp10
              go_wp2_with fail
              with_reducible refine (B5.out _ _ HP10.out).mono ?_
              rintro e w11 ⟨v11, rfl, hp11, hx11⟩
              have HX11 := hid (HX10.out.trans hx11)
              have HP11 := hid (Terms.on HP10.out hx11)
              have HV11 := hid (Terms.on HV10.out hx11)
              have HI11 := hid (Terms.on HI10.out hx11)
              have HT11 := hid (hp11.to (S' := Old w11) (Kept.refl _ _) New.lt)
              have hle11 := hp11.len_le
              obtain ⟨a11, c11, rfl⟩ := hp11.form
              obtain ⟨nt, hnt⟩ : ∃ n, n = (ofP (tailP P)).length := ⟨_, rfl⟩
              rw [← hnt] at HT11 hle11 ⊢
              have Hnt := hid hnt
              clear hnt
              clear hx11 hp11
              go_wp2_with fail
              with_reducible refine (B9.out _ _ _ HI11.out HV11.out).mono ?_
              rintro e w12 ⟨v12, rfl, hp12, hx12⟩
              have HX12 := hid (HX11.out.trans hx12)
              have HP12 := hid (Terms.on HP11.out hx12)
              have HI12 := hid (Terms.on HI11.out hx12)
              have HT12 := hid (Terms.on HT11.out hx12)
              have HY12 := hid (hp12.to (S' := Old w12) (Kept.refl _ _) New.lt)
              obtain ⟨a12, c12, rfl⟩ := hp12.form
              clear hx12 hp12
              go_wp2_with fail
              with_reducible refine (D1.out _ _ _ HY12.out HT12.out).mono ?_
              rintro e w13 ⟨v13, rfl, hp13, hx13⟩
              have HX13 := hid (HX12.out.trans hx13)
              have HP13 := hid (Terms.on HP12.out hx13)
              have HI13 := hid (Terms.on HI12.out hx13)
              have HT13 := hid (Terms.on HT12.out hx13)
              have HZ13 := hid (hp13.to (S' := Old w13) (Kept.refl _ _) New.lt)
              obtain ⟨a13, c13, rfl⟩ := hp13.form
              clear hx13 hp13
              rw [← Hni.out] at hni
              have q8 : decide ((0 : Int) < (ni : Int)) = true := decide_eq_true (by omega)
              have q9 : decide (0 < ni) = true := decide_eq_true hni
              go_wp2_with fail
              with_reducible refine (B3.out _ _ _ HZ13.out HP13.out).mono ?_
              rintro e w14 ⟨rfl, hx14⟩
              have HX14 := hid (HX13.out.trans hx14)
              have HI14 := hid (Terms.on HI13.out hx14)
              have HT14 := hid (Terms.on HT13.out hx14)
              clear hx14
              go_wp2_with fail
              with_reducible refine (D2.out _ _ HI14.out).mono ?_
              rintro e w15 ⟨rfl, hx15⟩
              have HX15 := hid (HX14.out.trans hx15)
              have HT15 := hid (Terms.on HT14.out hx15)
              clear hx15
              by_cases ht0 : nt = 0
              · subst ht0
                go_wp2_with fail
                with_reducible refine (law09_known w15).mono ?_
                rintro e w16 ⟨rfl, hx16⟩
                have HX16 := hid (HX15.out.trans hx16)
                clear hx16
                go_wp2
                all_goals
                  go_ret
                  exact ⟨rfl, HX16.out⟩
              · have q10 : ((nt : Int) == 0) = false := by rw [beq_eq_false_iff_ne]; omega
                clear ht0
                go_wp2_with fail
                with_reducible refine (D3.out _ _ HT15.out).mono ?_
                rintro e w16 ⟨rfl, hx16⟩
                have HX16 := hid (HX15.out.trans hx16)
                clear hx16
                go_wp2_with fail
                with_reducible refine (law09_known w16).mono ?_
                rintro e w17 ⟨rfl, hx17⟩
                have HX17 := hid (HX16.out.trans hx17)
                clear hx17
                go_wp2
                all_goals
                  go_ret
                  exact ⟨rfl, HX17.out⟩
end Go.Proofs.YthplgldclilccaaGreat

namespace Go.Proofs.YthplgldclilccaaGreat
open Go.RowKit Go.Deep Go.ChangeShapes Go.WideShapes Go.ChangeAt

set_option maxRecDepth 100000 in
theorem int_arg {H : Type} {enc : TypeId × Value → H} {W : World} {base b0 : Nat} {sp : Nat → Bool} {held : Bool} {fuel : Nat} {v : Value} {x : DataW H × List MemPlace} (hv : Value.okWide Tryz.prog W .any base 3 v) (h : DataW.trod enc Tryz.prog W b0 sp held fuel 3 v.cells.toList = some x) : ∃ n, v = .int .i64 n ∧ inI64 n := by
  obtain ⟨n, rfl⟩ := okWide_int Tryz.underlying3 hv
  obtain ⟨m, e, -, hw⟩ := DataW.trod_int Tryz.underlying3 h
  have e' : [Value.int .i64 n] = [.int .i64 m] := e
  obtain rfl : n = m := by simpa using e'
  exact ⟨n, rfl, bounds_i64 hw⟩

set_option maxRecDepth 100000 in
theorem back_lifted (os : Os) (started : os.Started) (H : Type) (enc : TypeId × Value → H) :
    ReturnsInHanded {} Tryz.checked os 7 .any (Rows.viewBackSpec.pre6 enc Tryz.prog Tryz.f7 Rows.viewBackRow.domain false) (Rows.viewBackSpec.post enc Tryz.prog Tryz.f7 false true false false) := by
  refine returnsInHanded_of_change (C := Tryz.checked) Tryz.own started (by kernel_rfl) Tryz.func7
    (ChangeSpec.witness6 (enc := enc) (C := Tryz.checked) false ⟨#[], #[.slice none 0 0, .int .i64 0], []⟩ 8 (by kernel_rfl) (by kernel_rfl) (by kernel_rfl) (by kernel_rfl)) ?_
  intro W base args ds gs before hval0 hW _ _
  have hval : ∀ (j : Nat) t v, Tryz.f7.params[j]? = some t → args[j]? = some v → Value.okWide Tryz.prog W .any base t v := hval0
  have hW' := hW
  obtain ⟨p, q, hA0, hV, _, _, _⟩ := hW'
  have hA : DataW.TrodAll enc Tryz.prog W 0 (fun _ => true) true Tryz.f7.params.toList args.toList ds p := hA0
  rw [Tryz.params7] at hA hval
  obtain ⟨v0, v1, d0, d1, p0, p1, rfl, rfl, rfl, h0, h1⟩ := trodAll_two hA
  obtain ⟨rfl, rfl⟩ := trodVars_none hV
  obtain ⟨fuel0, hf0⟩ := h0
  rw [slice_cells Tryz.underlying26 (hval 0 _ v0 rfl rfl)] at hf0
  obtain ⟨x0, hx0⟩ := open_terms hf0
  obtain ⟨fuel1, hf1⟩ := h1
  obtain ⟨y1, rfl, hy1⟩ := int_arg (hval 1 _ v1 rfl rfl) hf1
  refine (law_back v0 x0 y1 W hx0 hy1).mono fun e W' h => ?_
  obtain ⟨rfl, hb⟩ := h
  exact ⟨_, rfl, law_post hW rfl rfl rfl (by rw [Tryz.params7]; intro t ht; simp at ht; rcases ht with rfl | rfl <;> exact ⟨by kernel_rfl, by decide +kernel⟩) hb⟩

theorem back_holds : Rows.ViewBackSaid :=
  OpenClaim.holds_of_wide 7 Tryz.f7 rfl rfl rfl rfl rfl rfl rfl ⟨rfl, rfl, rfl, rfl, rfl⟩ rfl rfl rfl rfl rfl (by kernel_rfl) Tryz.func7 (by kernel_rfl)
    (of_decide_eq_true (by kernel_rfl)) (by unfold Func.isWrapper; first | (rw [if_pos (by decide +kernel)]; kernel_rfl) | (rw [if_neg (by decide +kernel)]; exact ⟨rfl, rfl⟩))
    (fun os started H enc _ => back_lifted os started H enc)
end Go.Proofs.YthplgldclilccaaGreat
