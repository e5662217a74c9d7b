/- A region that draws its order: what reads first, then calls that make memory, one behind the other. -/
import Derived.Test.YthplgldclilccaaLater
import Derived.StillTail
import Derived.OrdersHeld
namespace Go.Proofs.Ythplgldclilccaa
open Go.RowKit

/-- an operation that yields a value or halts -/
def plainOp (o : Oper) : Bool := match o.op with
  | .move _ => true
  | .assign _ => true
  | .pick _ _ _ => true
  | .load _ _ => true
  | .build _ _ => true
  | .fieldAddr _ _ _ => true
  | .indexAddr _ _ _ => true
  | .binOp _ _ _ _ _ => true
  | .unOp _ _ _ => true
  | .convert _ _ _ => true
  | .extract _ _ => true
  | .call c => match c.callee with
    | .builtin .len => true
    | _ => false
  | _ => false

theorem plain_bind {P : Program} (s : Sem Value) (W : World) : (∃ x w', (do pure (Next.value (← s)) : Sem Next).run P W = .ok (.value x) w') ∨ (∃ h w', (do pure (Next.value (← s)) : Sem Next).run P W = .halt h w') := by
  simp only [Sem.run_bind]
  cases s.run P W with
  | ok x w' => exact .inl ⟨x, w', by simp⟩
  | halt h w' => exact .inr ⟨h, w', rfl⟩
theorem plain_run {P : Program} {o : Oper} (h : plainOp o = true) (ρ : Operand → Value) (W : World) : (∃ x w', (execOp ρ o).run P W = .ok (.value x) w') ∨ (∃ h w', (execOp ρ o).run P W = .halt h w') := by
  unfold plainOp at h
  unfold execOp
  cases hop : o.op with
  | move x => exact .inl ⟨_, _, rfl⟩
  | assign x => exact .inl ⟨_, _, rfl⟩
  | pick c a b =>
    simp only [Sem.run_bind]
    cases (asBool (ρ c)).run P W with
    | ok x w' => exact .inl ⟨_, w', rfl⟩
    | halt h w' => exact .inr ⟨h, w', rfl⟩
  | load t a => exact plain_bind _ W
  | build t a => exact plain_bind _ W
  | fieldAddr t a b => exact plain_bind _ W
  | indexAddr t a b => exact plain_bind _ W
  | binOp a b c d e => exact plain_bind _ W
  | unOp a b c => exact plain_bind _ W
  | convert a b c => exact plain_bind _ W
  | extract a b => exact plain_bind _ W
  | call c =>
    rw [hop] at h
    simp only at h
    split at h
    · rename_i hc
      simp only [resolve, hc, Sem.run_bind, Sem.run_pure, Result.andThen_ok, invoke, builtin]
      cases (Builtin.len_ c.argTypes o.type (Array.map ρ c.args)).run P W with
      | ok x w' => exact .inl ⟨x, w', rfl⟩
      | halt h w' => exact .inr ⟨h, w', rfl⟩
    · cases h
  | _ => rw [hop] at h; simp at h

theorem plain_yields {P : Program} {ops : Array Oper} {S : World → Prop} {o : Oper} {v : Value} {a : Act} (hp : plainOp o = true) (h : YieldsIn P ops S o v a) : YieldsIf P ops S o v a := by
  rcases h with ⟨hw, hv⟩ | ⟨hw, hv⟩
  · refine .inl ⟨hw, fun W hW => ?_⟩
    have h1 := hv W hW
    unfold Oper.quietAt at h1
    rcases plain_run (P := P) hp a.eval W with ⟨x, w', e⟩ | ⟨x, w', e⟩
    · rw [e] at h1 ⊢
      simp only [Oper.quietUpon] at h1
      rw [h1.1, h1.2]
    · rw [e] at h1
      exact absurd h1 (by simp [Oper.quietUpon])
  · exact .inr ⟨hw, hv⟩

/-- the head: each operation may come up in its turn, none that waits not for it touches what it touches -/
def headB (md : Region.Mode) (ops : Array Oper) (g : Nat) : List Oper → Nat → Array Bool → Bool
  | [], k, listed => Region.seqB md ops g k listed
  | o :: l, k, listed => plainOp o && (Region.ready md ops listed).contains k && Region.free md ops listed k && headB md ops g l (k + 1) (listed.setIfInBounds k true)

/-- behind one operation: S, and what follows -/
def thenQ (S : World → Prop) (K : Act → World → Prop) (Q : Exit → Act → World → Prop) : Exit → Act → World → Prop
  | .normal, a, w => S w ∧ K a w
  | ex, a, w => Q ex a w
/-- the tail: one operation behind the other, S shown anew behind each -/
def tailWp (P : Program) (ops : Array Oper) (S : World → Prop) (Q : Exit → Act → World → Prop) : List Oper → Act → World → Prop
  | [], a, w => Q .normal a w
  | o :: l, a, w => wpList P ops (thenQ S (tailWp P ops S Q l) Q) [o] a w

section
variable {P : Program} {md : Region.Mode} {ops : Array Oper} {S : World → Prop} {Q : Exit → Act → World → Prop}

theorem held_of_tail : ∀ (l : List Oper) (k : Nat) (listed : Array Bool) (a : Act) (w : World), (∀ j, l[j]? = ops[k + j]?) →
    Region.seqB md ops l.length k listed = true → tailWp P ops S Q l a w → wpAnyH P md ops Q S l.length listed a w
  | [], _, _, _, _, _, hB, h => ⟨by simpa [Region.seqB] using hB, h⟩
  | o :: l, k, listed, a, w, hl, hB, h => by
    have h0 : ops[k]? = some o := by simpa using (hl 0).symm
    simp only [List.length_cons, Region.seqB, Bool.and_eq_true, decide_eq_true_eq] at hB
    refine ⟨fun h1 => (by rw [hB.1] at h1; cases h1), fun i hi => ?_⟩
    rw [hB.1] at hi
    have hik : i = k := by simpa using hi
    subst hik
    have hrest : ∀ a' w', (S w' ∧ tailWp P ops S Q l a' w') → (S w' ∧ wpAnyH P md ops Q S l.length (listed.setIfInBounds i true) a' w') := fun a' w' h' =>
      ⟨h'.1, held_of_tail l (i + 1) _ a' w' (fun j => by have := hl (j + 1); simpa [Nat.add_assoc, Nat.add_comm 1 j] using this) hB.2 h'.2⟩
    unfold tailWp wpList at h
    unfold wpOp
    simp only [h0]
    have hu : ∀ (K : Act → World → Prop) (r : Result Next), o.upon P a K (thenQ S (tailWp P ops S Q l) Q) r → o.upon P a K Q r := by
      intro K r hr
      cases r with
      | ok n w' => cases n <;> exact hr
      | halt x w' => cases x <;> exact hr
    split
    · rename_i hw
      rw [if_pos hw] at h
      rcases h with h | h
      · exact .inl (Oper.wp_mono (fun a' w' h' => hrest a' w' h') (hu _ _ h))
      · exact .inr h
    · rename_i hw
      rw [if_neg hw] at h
      exact hrest _ _ h

theorem held_of_head (hsel : Region.noSelect ops = true) (hQ : ∀ c a t v w, Q (.panic c) (a.put (some t) v) w → Q (.panic c) a w) {g : Nat} {w : World} (hS : S w) {L : Act → Prop} :
    ∀ (l : List Oper) (k : Nat) (listed : Array Bool) (a : Act), (∀ j, j < l.length → l[j]? = ops[k + j]?) → headB md ops g l k listed = true → wpQuiet P ops S L l a →
      (∀ listed' a', Region.seqB md ops g (k + l.length) listed' = true → L a' → wpAnyH P md ops Q S g listed' a' w) → wpAnyH P md ops Q S (l.length + g) listed a w
  | [], k, listed, a, _, hB, h, hL => by
    simp only [List.length_nil, Nat.zero_add]
    exact hL listed a hB h
  | o :: l, k, listed, a, hl, hB, h, hL => by
    have h0 : ops[k]? = some o := by simpa using (hl 0 (by simp)).symm
    simp only [headB, Bool.and_eq_true] at hB
    obtain ⟨⟨⟨hp, hr⟩, hf⟩, hB'⟩ := hB
    have hq : qOp P ops S k (wpQuiet P ops S L l) a := by unfold qOp; simp only [h0]; exact h
    obtain ⟨v, hy, hK⟩ := yieldsIn_of_qOp h0 hq
    rw [show (o :: l).length + g = (l.length + g) + 1 by simp only [List.length_cons]; omega]
    refine wpAnyH_take h0 hsel hf hr (fun c a w hp => ?_) (plain_yields hp hy) hS ?_
    · cases hd : o.dst with
      | none => rw [hd] at hp; exact hp
      | some t => rw [hd] at hp; exact hQ c a t v w hp
    exact held_of_head hsel hQ hS l (k + 1) _ _ (fun j hj => by have := hl (j + 1) (by simp; omega); simpa [Nat.add_assoc, Nat.add_comm 1 j] using this) hB' hK
      (fun listed' a' hs hLa => hL listed' a' (by rw [show k + (o :: l).length = k + 1 + l.length by simp only [List.length_cons]; omega]; exact hs) hLa)

theorem wp_region_mix {id : Nat} {a : Act} {w : World} {l : List Oper} (S : World → Prop) (n : Nat) (hm : P.follows .mixedOrders = true) (hsel : Region.noSelect l.toArray = true) (hn : n ≤ l.length)
    (hB : headB .any l.toArray (l.length - n) (l.take n) 0 (Array.replicate l.length false) = true) (hQ : ∀ c a t v w, Q (.panic c) (a.put (some t) v) w → Q (.panic c) a w) (hS : S w.drew)
    (h : wpQuiet P l.toArray S (fun a' => tailWp P l.toArray S Q (l.drop n) a' w.drew) (l.take n) a) : (Code.region id l.toArray true).wp P Q a w := by
  refine wp_region_held (S := S) hm ?_
  have htl : (l.take n).length = n := by simp; omega
  have hdl : (l.drop n).length = l.length - n := by simp
  have H := held_of_head (P := P) (md := .any) (ops := l.toArray) (S := S) (Q := Q) hsel hQ (g := l.length - n) (w := w.drew) hS (l.take n) 0 (Array.replicate l.length false) a (fun j hj => by
    have hj' : j < n := by rw [htl] at hj; exact hj
    simp [hj']) hB h (fun listed' a' hs hL => by
      have := held_of_tail (P := P) (md := .any) (ops := l.toArray) (S := S) (Q := Q) (l.drop n) n listed' a' w.drew (fun j => by simp [List.getElem?_drop]) (by rw [hdl]; rw [htl, Nat.zero_add] at hs; exact hs) hL
      rwa [hdl] at this)
  rw [htl, show n + (l.length - n) = l.length by omega] at H
  simpa using H

end

/-- a world in which the blocks below B are as they were -/
structure LaterB (B : Nat) (w : World) where
  w' : World
  h : Below B w w'
theorem LaterB.cell {B : Nat} {w : World} (X : LaterB B w) {b i : Nat} {v : Value} (hb : b < B) (hc : w.cell? ⟨b, i, none⟩ = some v) : X.w'.cell? ⟨b, i, none⟩ = some v := bcell' X.h hb hc
end Go.Proofs.Ythplgldclilccaa
