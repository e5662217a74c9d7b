/- What every law's row asks: the answer true, the arguments as they were. -/
import Derived.Test.YthplgldclilccaaRows
import Derived.Test.YthplgldclilccaaOpen
import Derived.Lib.SmallJoins
import Derived.JoinedCond
namespace Go.Proofs.Ythplgldclilccaa
open Go.RowKit Go.Deep Go.ChangeShapes Go.WideShapes Go.ChangeAt

theorem Try.own : ownKnob Try.prog.godebug = none := by kernel_rfl
theorem Try.laidOut : laidOutB Try.prog = true := by kernel_rfl

theorem trodAll_below {H : Type} {enc : TypeId × Value → H} {W W' : World} (hb : Below W.heap.size W W') :
    ∀ {ts : List TypeId} {vs : List Value} {ds : List (DataW H)} {p : List MemPlace}, (∀ t ∈ ts, Try.prog.readableRec t = true ∧ t < Try.prog.types.size) → (∀ x ∈ p, x.block < W.heap.size) →
    DataW.TrodAll enc Try.prog W 0 (fun _ => true) true ts vs ds p → DataW.TrodAll enc Try.prog W' 0 (fun b => decide (b < W.heap.size)) true ts vs ds p := by
  intro ts
  induction ts with
  | nil =>
    intro vs ds p _ _ h
    cases vs <;> cases ds <;> first | exact h | exact h.elim
  | cons t ts ih =>
    intro vs ds p ht hlt h
    cases vs with
    | nil => exact h.elim
    | cons v vs =>
      cases ds with
      | nil => exact h.elim
      | cons d ds =>
        obtain ⟨p1, q1, h1, h2, rfl⟩ := h
        refine ⟨p1, q1, ?_, ih (fun x hx => ht x (List.mem_cons_of_mem _ hx)) (fun x hx => hlt x (List.mem_append_right _ hx)) h2, rfl⟩
        exact Below.trod Try.laidOut (ht t (List.mem_cons_self)).1 (ht t (List.mem_cons_self)).2 h1 hb (fun x hx => hlt x (List.mem_append_left _ hx))

/-- a law's answer: true -/
def LawTrue (W : World) : Ending → World → Prop := fun e W' => e = .returned (.bool true) ∧ Below W.heap.size W W'

/-- the arguments that are read -/
theorem law_post {H : Type} {enc : TypeId × Value → H} {F : Func} {s : ChangeSpec} {W W' : World} {args : Array Value} {ds gs : List (DataW H)} {before : List MemPlace}
    (hW : DataW.Whole enc Try.prog F.params.toList s.vars false W args.toList ds gs before) (hv : s.vars = []) (hr : F.resultTypes = #[4])
    (hs : s.fn H (ds ++ gs) = { results := [.lit (.bool true)], args := ds }) (ht : ∀ t ∈ F.params.toList, Try.prog.readableRec t = true ∧ t < Try.prog.types.size)
    (hb : Below W.heap.size W W') : s.post enc Try.prog F false true false false W args (.bool true) W' := by
  have hlt := fun p hp => hW.lt p hp
  have hW' := hW
  obtain ⟨p, q, hA, hV, rfl, _, _⟩ := hW
  rw [hv] at hV
  obtain ⟨rfl, rfl⟩ := trodVars_none hV
  refine ⟨ds, _, _, [], p, [], hW', ?_, ?_, ?_, hb.frame _, fun h => by cases h⟩
  · rw [hs, hr]
    exact trodAll_mk1 (shut_bool Try.underlying4 true)
  · rw [hs]
    exact trodAll_below hb ht (fun x hx => hlt x (List.mem_append_left _ hx)) hA
  · rw [hs, hv]
    rfl
end Go.Proofs.Ythplgldclilccaa
