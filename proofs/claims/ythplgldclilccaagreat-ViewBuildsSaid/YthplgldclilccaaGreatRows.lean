/-
  No cell of these rows narrows 'for every input' (looked for: loops, veiled, ifaces, maps, wideKeys, modest, calm, conditions, laid).
  DERIVED. THE GIVEN ROWS OF THIS SEAT. 5 by the template 'for every input the law returns true; each argument reads behind the call as it read before'; 0 by the template 'total and deterministic' (their statements: YthplgldclilccaaGreatTotals.lean).
  GIVEN WITH THE SEED: the statements are not yours to turn. If you find one false, say at which input.
  Laid BY PROGRAM, IN A SANDBOX (cutbox-rows.mjs): the forced cells as the released guide's own fill.sh prints them over the translation 8518a45564f5ae44… (all of the seat's roots in one cut). By AI agents, Wed Nov 11 2026. No macro, syntax, notation, axiom, sorry.
-/
import Derived.Test.YthplgldclilccaaGreatChecked
import GoSem.Claim
import GoSem.ClaimJoined
import GoSem.ClaimMapViews
import Derived.JoinedTies
import Derived.KernelRfl
namespace Go.Proofs.YthplgldclilccaaGreat
/- THE CELL 'sum', in the pinned program and in every row, IS THE sha256 OF THE DUMP (.gsa) THAT YthplgldclilccaaGreatProg.lean LOADS. Nothing in Lean hashes anything: it is a label: what it is worth is what the hold of that sum in a sandbox is worth. -/
noncomputable def Tryz.pinned : Pinned := { name := "ythplgldclilccaagreat", sum := "8518a45564f5ae4471119fb4015cddb1a9221438727e3ce54cf090b7e9403a99", checked := Tryz.checked }
namespace Rows
def none {H : Type} : Left H := { results := [], args := [] }

/-- 'porismlaw15.RankSorts': WHATEVER THE INPUT: true; the input reads as it did. -/
def rankSortsSpec : ChangeSpec := { name := "rankSorts", fn := fun _ => fun
  | [d1, d2] => { results := [.lit (.bool true)], args := [d1, d2] }
  | _ => none }
def rankSortsRow : OpenClaim := { program := "ythplgldclilccaagreat", sum := "8518a45564f5ae4471119fb4015cddb1a9221438727e3ce54cf090b7e9403a99", func := "porism/porismlaw15.RankSorts", spec := "rankSorts", unfollowed := true, recurses := true, apart := false }
def RankSortsSaid : Prop := rankSortsRow.holds Tryz.pinned (OpenSpec.ofChange rankSortsSpec)

/-- ITS FALSE NEIGHBOUR: 'it returns false'. Refute it at one input. -/
def rankSortsWrong : ChangeSpec := { name := "rankSorts", fn := fun _ => fun
  | [d1, d2] => { results := [.lit (.bool false)], args := [d1, d2] }
  | _ => none }
def RankSortsWrongFalsely : Prop := rankSortsRow.holds Tryz.pinned (OpenSpec.ofChange rankSortsWrong)

/-- 'porismlaw09.ViewTells': WHATEVER THE INPUT: true; the input reads as it did. -/
def viewTellsSpec : ChangeSpec := { name := "viewTells", fn := fun _ => fun
  | [d1, d2, d3] => { results := [.lit (.bool true)], args := [d1, d2, d3] }
  | _ => none }
def viewTellsRow : OpenClaim := { program := "ythplgldclilccaagreat", sum := "8518a45564f5ae4471119fb4015cddb1a9221438727e3ce54cf090b7e9403a99", func := "porism/porismlaw09.ViewTells", spec := "viewTells", unfollowed := true, recurses := true, apart := false }
def ViewTellsSaid : Prop := viewTellsRow.holds Tryz.pinned (OpenSpec.ofChange viewTellsSpec)

/-- ITS FALSE NEIGHBOUR: 'it returns false'. Refute it at one input. -/
def viewTellsWrong : ChangeSpec := { name := "viewTells", fn := fun _ => fun
  | [d1, d2, d3] => { results := [.lit (.bool false)], args := [d1, d2, d3] }
  | _ => none }
def ViewTellsWrongFalsely : Prop := viewTellsRow.holds Tryz.pinned (OpenSpec.ofChange viewTellsWrong)

/-- 'porismlaw09.ViewProducts': WHATEVER THE INPUT: true; the input reads as it did. -/
def viewProductsSpec : ChangeSpec := { name := "viewProducts", fn := fun _ => fun
  | [d1, d2, d3] => { results := [.lit (.bool true)], args := [d1, d2, d3] }
  | _ => none }
def viewProductsRow : OpenClaim := { program := "ythplgldclilccaagreat", sum := "8518a45564f5ae4471119fb4015cddb1a9221438727e3ce54cf090b7e9403a99", func := "porism/porismlaw09.ViewProducts", spec := "viewProducts", unfollowed := true, recurses := true, apart := false }
def ViewProductsSaid : Prop := viewProductsRow.holds Tryz.pinned (OpenSpec.ofChange viewProductsSpec)

/-- ITS FALSE NEIGHBOUR: 'it returns false'. Refute it at one input. -/
def viewProductsWrong : ChangeSpec := { name := "viewProducts", fn := fun _ => fun
  | [d1, d2, d3] => { results := [.lit (.bool false)], args := [d1, d2, d3] }
  | _ => none }
def ViewProductsWrongFalsely : Prop := viewProductsRow.holds Tryz.pinned (OpenSpec.ofChange viewProductsWrong)

/-- 'porismlaw09.ViewBuilds': WHATEVER THE INPUT: true; the input reads as it did. -/
def viewBuildsSpec : ChangeSpec := { name := "viewBuilds", fn := fun _ => fun
  | [d1, d2, d3] => { results := [.lit (.bool true)], args := [d1, d2, d3] }
  | _ => none }
def viewBuildsRow : OpenClaim := { program := "ythplgldclilccaagreat", sum := "8518a45564f5ae4471119fb4015cddb1a9221438727e3ce54cf090b7e9403a99", func := "porism/porismlaw09.ViewBuilds", spec := "viewBuilds", unfollowed := true, recurses := true, apart := false }
def ViewBuildsSaid : Prop := viewBuildsRow.holds Tryz.pinned (OpenSpec.ofChange viewBuildsSpec)

/-- ITS FALSE NEIGHBOUR: 'it returns false'. Refute it at one input. -/
def viewBuildsWrong : ChangeSpec := { name := "viewBuilds", fn := fun _ => fun
  | [d1, d2, d3] => { results := [.lit (.bool false)], args := [d1, d2, d3] }
  | _ => none }
def ViewBuildsWrongFalsely : Prop := viewBuildsRow.holds Tryz.pinned (OpenSpec.ofChange viewBuildsWrong)

/-- 'porismlaw09.ViewBack': WHATEVER THE INPUT: true; the input reads as it did. -/
def viewBackSpec : ChangeSpec := { name := "viewBack", fn := fun _ => fun
  | [d1, d2] => { results := [.lit (.bool true)], args := [d1, d2] }
  | _ => none }
def viewBackRow : OpenClaim := { program := "ythplgldclilccaagreat", sum := "8518a45564f5ae4471119fb4015cddb1a9221438727e3ce54cf090b7e9403a99", func := "porism/porismlaw09.ViewBack", spec := "viewBack", unfollowed := true, recurses := true, apart := false }
def ViewBackSaid : Prop := viewBackRow.holds Tryz.pinned (OpenSpec.ofChange viewBackSpec)

/-- ITS FALSE NEIGHBOUR: 'it returns false'. Refute it at one input. -/
def viewBackWrong : ChangeSpec := { name := "viewBack", fn := fun _ => fun
  | [d1, d2] => { results := [.lit (.bool false)], args := [d1, d2] }
  | _ => none }
def ViewBackWrongFalsely : Prop := viewBackRow.holds Tryz.pinned (OpenSpec.ofChange viewBackWrong)

/- THE SECOND FORM. 'bulk': how many values and letters a reading holds, each counted each time it is reached (what is shared counts as often as it is met; a slice's spare places count too). A statement '..UptoSaid' is the law's where the arguments, and the package variables that the reading takes, are together of bulk at most 1048576: NARROWER than '..Said'. Prove '..Said' where nothing that the law and all that it calls make is longer than what came in: it says more and counts as full. Else prove '..UptoSaid'. A law counts once. -/
mutual
def uptoBulk {H : Type} : DataW H → Nat
  | .lit (.string bytes) => bytes.length + 1
  | .lit _ => 1
  | .nil => 1
  | .ptr d => uptoBulk d + 1
  | .slice elems spare => uptoBulkAll elems + uptoBulkAll spare + 1
  | .agg parts => uptoBulkAll parts + 1
  | .iface _ d => uptoBulk d + 1
  | .map entries => uptoBulkEntries entries + 1
  | .held _ => 1
def uptoBulkAll {H : Type} : List (DataW H) → Nat
  | [] => 0
  | d :: r => uptoBulk d + uptoBulkAll r
def uptoBulkEntries {H : Type} : List (Lit × DataW H) → Nat
  | [] => 0
  | x :: r => uptoBulkEntry x + uptoBulkEntries r
def uptoBulkEntry {H : Type} : Lit × DataW H → Nat
  | (.string bytes, d) => bytes.length + uptoBulk d + 1
  | (_, d) => uptoBulk d + 1
 end
def uptoSmall : (H : Type) → List (DataW H) → Bool := fun _ ds => decide (uptoBulkAll ds ≤ 1048576)
def OpenSpec.upto (s : _root_.Go.ChangeSpec) : _root_.Go.OpenSpec := { _root_.Go.OpenSpec.ofChange s with cond := some uptoSmall }

/-- 'porismlaw15.RankSorts', WHERE WHAT IT READS IS OF BULK AT MOST 1048576: true; the input reads as it did. -/
def rankSortsUptoRow : OpenClaim := { program := "ythplgldclilccaagreat", sum := "8518a45564f5ae4471119fb4015cddb1a9221438727e3ce54cf090b7e9403a99", func := "porism/porismlaw15.RankSorts", spec := "rankSorts", unfollowed := true, recurses := true, apart := false, narrowed := true }
def RankSortsUptoSaid : Prop := rankSortsUptoRow.holds Tryz.pinned (OpenSpec.upto rankSortsSpec)

/-- 'porismlaw09.ViewTells', WHERE WHAT IT READS IS OF BULK AT MOST 1048576: true; the input reads as it did. -/
def viewTellsUptoRow : OpenClaim := { program := "ythplgldclilccaagreat", sum := "8518a45564f5ae4471119fb4015cddb1a9221438727e3ce54cf090b7e9403a99", func := "porism/porismlaw09.ViewTells", spec := "viewTells", unfollowed := true, recurses := true, apart := false, narrowed := true }
def ViewTellsUptoSaid : Prop := viewTellsUptoRow.holds Tryz.pinned (OpenSpec.upto viewTellsSpec)

/-- 'porismlaw09.ViewProducts', WHERE WHAT IT READS IS OF BULK AT MOST 1048576: true; the input reads as it did. -/
def viewProductsUptoRow : OpenClaim := { program := "ythplgldclilccaagreat", sum := "8518a45564f5ae4471119fb4015cddb1a9221438727e3ce54cf090b7e9403a99", func := "porism/porismlaw09.ViewProducts", spec := "viewProducts", unfollowed := true, recurses := true, apart := false, narrowed := true }
def ViewProductsUptoSaid : Prop := viewProductsUptoRow.holds Tryz.pinned (OpenSpec.upto viewProductsSpec)

/-- 'porismlaw09.ViewBuilds', WHERE WHAT IT READS IS OF BULK AT MOST 1048576: true; the input reads as it did. -/
def viewBuildsUptoRow : OpenClaim := { program := "ythplgldclilccaagreat", sum := "8518a45564f5ae4471119fb4015cddb1a9221438727e3ce54cf090b7e9403a99", func := "porism/porismlaw09.ViewBuilds", spec := "viewBuilds", unfollowed := true, recurses := true, apart := false, narrowed := true }
def ViewBuildsUptoSaid : Prop := viewBuildsUptoRow.holds Tryz.pinned (OpenSpec.upto viewBuildsSpec)

/-- 'porismlaw09.ViewBack', WHERE WHAT IT READS IS OF BULK AT MOST 1048576: true; the input reads as it did. -/
def viewBackUptoRow : OpenClaim := { program := "ythplgldclilccaagreat", sum := "8518a45564f5ae4471119fb4015cddb1a9221438727e3ce54cf090b7e9403a99", func := "porism/porismlaw09.ViewBack", spec := "viewBack", unfollowed := true, recurses := true, apart := false, narrowed := true }
def ViewBackUptoSaid : Prop := viewBackUptoRow.holds Tryz.pinned (OpenSpec.upto viewBackSpec)

end Rows
end Go.Proofs.YthplgldclilccaaGreat
