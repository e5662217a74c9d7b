/- A region that draws its order, whose callees only make memory and hand back plain values: walked once, in the order of the text. -/
import Derived.Test.YthplgldclilccaaBase
import Derived.BigQuiet
import Derived.Deep.RegionHeld3
import Derived.Deep.DrawnRows
namespace Go.Proofs.Ythplgldclilccaa
open Go.RowKit

/-- a world in which memory has only grown -/
structure Later (w : World) where
  w' : World
  h : Ext w w'
instance (w : World) : Nonempty (Later w) := ⟨⟨w, Ext.refl w⟩⟩
instance (w : World) : Inhabited (Later w) := ⟨⟨w, Ext.refl w⟩⟩

theorem wp_region_later {P : Program} {id : Nat} {Q : Exit → Act → World → Prop} {a : Act} {w : World} {l : List Oper} (hm : P.follows .mixedOrders = true) (hB : Region.lexB .any l.toArray = true)
    (h : wpQuiet P l.toArray (fun W => ∃ X : Later w, W = X.w') (fun a' => ∀ W, Ext w W → Q .normal a' W) l a) : (Code.region id l.toArray true).wp P Q a w := by
  refine wp_region_quiet (C := fun W => ∃ X : Later w, W = X.w') hm hB ⟨⟨{ w with drawn := w.drawn + 1 }, rfl, rfl, rfl, Nat.le_refl _, fun _ _ => rfl⟩, rfl⟩ ?_
  have e : (fun a' : Act => ∀ W, (∃ X : Later w, W = X.w') → Q .normal a' W) = (fun a' : Act => ∀ W, Ext w W → Q .normal a' W) := by
    funext a'
    refine propext ⟨fun k W hW => k W ⟨⟨W, hW⟩, rfl⟩, ?_⟩
    rintro k W ⟨X, rfl⟩
    exact k _ X.h
  rw [e]
  exact h

theorem Later.done {P : Program} {f : FuncId} {args : Array Value} {w : World} {X : Later w} {v : Value}
    (h : Calls P f args X.w' fun e w' => e = .returned v ∧ Ext X.w' w') : Calls P f args X.w' fun e w'' => e = .returned v ∧ ∃ Y : Later w, w'' = Y.w' :=
  h.mono fun _ W ⟨he, hm⟩ => ⟨he, ⟨W, X.h.trans hm⟩, rfl⟩
theorem Later.cell {w : World} (X : Later w) {b i : Nat} {v : Value} (hc : w.cell? ⟨b, i, none⟩ = some v) : X.w'.cell? ⟨b, i, none⟩ = some v := X.h.cell hc
end Go.Proofs.Ythplgldclilccaa
