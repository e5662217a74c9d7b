/-
  No cell of these rows narrows 'for every input' (looked for: loops, veiled, ifaces, maps, wideKeys, modest, calm, conditions, laid).
  DERIVED. THE GIVEN ROWS OF THIS SEAT. 3 by the template 'for every input the law returns true; each argument reads behind the call as it read before'; 0 by the template 'total and deterministic' (their statements: YtbfflodidkfphaaGreatTotals.lean).
  GIVEN WITH THE SEED: the statements are not yours to turn. If you find one false, say at which input.
  Laid BY PROGRAM, IN A SANDBOX (cutbox-rows.mjs): the forced cells as the released guide's own fill.sh prints them over the translation 96fac3fa276bf185… (all of the seat's roots in one cut). By AI agents, Wed Nov 11 2026. No macro, syntax, notation, axiom, sorry.
-/
import Derived.Test.YtbfflodidkfphaaGreatChecked
import GoSem.Claim
import GoSem.ClaimJoined
import GoSem.ClaimMapViews
import Derived.JoinedTies
import Derived.KernelRfl
namespace Go.Proofs.YtbfflodidkfphaaGreat
/- THE CELL 'sum', in the pinned program and in every row, IS THE sha256 OF THE DUMP (.gsa) THAT YtbfflodidkfphaaGreatProg.lean LOADS. Nothing in Lean hashes anything: it is a label: what it is worth is what the hold of that sum in a sandbox is worth. -/
noncomputable def Tryz.pinned : Pinned := { name := "ytbfflodidkfphaagreat", sum := "96fac3fa276bf18597f5f00a9a70961d6d7103739dec41ca04b03af82cc5842b", checked := Tryz.checked }
namespace Rows
def none {H : Type} : Left H := { results := [], args := [] }

/-- 'porismlaw28.SideSense': WHATEVER THE INPUT: true; the input reads as it did. -/
def sideSenseSpec : ChangeSpec := { name := "sideSense", fn := fun _ => fun
  | [d1, d2] => { results := [.lit (.bool true)], args := [d1, d2] }
  | _ => none }
def sideSenseRow : OpenClaim := { program := "ytbfflodidkfphaagreat", sum := "96fac3fa276bf18597f5f00a9a70961d6d7103739dec41ca04b03af82cc5842b", func := "porism/porismlaw28.SideSense", spec := "sideSense", unfollowed := true, recurses := true, apart := false }
def SideSenseSaid : Prop := sideSenseRow.holds Tryz.pinned (OpenSpec.ofChange sideSenseSpec)

/-- ITS FALSE NEIGHBOUR: 'it returns false'. Refute it at one input. -/
def sideSenseWrong : ChangeSpec := { name := "sideSense", fn := fun _ => fun
  | [d1, d2] => { results := [.lit (.bool false)], args := [d1, d2] }
  | _ => none }
def SideSenseWrongFalsely : Prop := sideSenseRow.holds Tryz.pinned (OpenSpec.ofChange sideSenseWrong)

/-- 'porismlaw28.SideBack': WHATEVER THE INPUT: true; the input reads as it did. -/
def sideBackSpec : ChangeSpec := { name := "sideBack", fn := fun _ => fun
  | [d1, d2, d3, d4, d5, d6] => { results := [.lit (.bool true)], args := [d1, d2, d3, d4, d5, d6] }
  | _ => none }
def sideBackRow : OpenClaim := { program := "ytbfflodidkfphaagreat", sum := "96fac3fa276bf18597f5f00a9a70961d6d7103739dec41ca04b03af82cc5842b", func := "porism/porismlaw28.SideBack", spec := "sideBack", unfollowed := true, recurses := true, apart := false }
def SideBackSaid : Prop := sideBackRow.holds Tryz.pinned (OpenSpec.ofChange sideBackSpec)

/-- ITS FALSE NEIGHBOUR: 'it returns false'. Refute it at one input. -/
def sideBackWrong : ChangeSpec := { name := "sideBack", fn := fun _ => fun
  | [d1, d2, d3, d4, d5, d6] => { results := [.lit (.bool false)], args := [d1, d2, d3, d4, d5, d6] }
  | _ => none }
def SideBackWrongFalsely : Prop := sideBackRow.holds Tryz.pinned (OpenSpec.ofChange sideBackWrong)

/-- 'porismlaw28.SideTells': WHATEVER THE INPUT: true; the input reads as it did. -/
def sideTellsSpec : ChangeSpec := { name := "sideTells", fn := fun _ => fun
  | [d1, d2, d3] => { results := [.lit (.bool true)], args := [d1, d2, d3] }
  | _ => none }
def sideTellsRow : OpenClaim := { program := "ytbfflodidkfphaagreat", sum := "96fac3fa276bf18597f5f00a9a70961d6d7103739dec41ca04b03af82cc5842b", func := "porism/porismlaw28.SideTells", spec := "sideTells", unfollowed := true, recurses := true, apart := false }
def SideTellsSaid : Prop := sideTellsRow.holds Tryz.pinned (OpenSpec.ofChange sideTellsSpec)

/-- ITS FALSE NEIGHBOUR: 'it returns false'. Refute it at one input. -/
def sideTellsWrong : ChangeSpec := { name := "sideTells", fn := fun _ => fun
  | [d1, d2, d3] => { results := [.lit (.bool false)], args := [d1, d2, d3] }
  | _ => none }
def SideTellsWrongFalsely : Prop := sideTellsRow.holds Tryz.pinned (OpenSpec.ofChange sideTellsWrong)

/- THE SECOND FORM. 'bulk': how many values and letters a reading holds, each counted each time it is reached (what is shared counts as often as it is met; a slice's spare places count too). A statement '..UptoSaid' is the law's where the arguments, and the package variables that the reading takes, are together of bulk at most 1048576: NARROWER than '..Said'. Prove '..Said' where nothing that the law and all that it calls make is longer than what came in: it says more and counts as full. Else prove '..UptoSaid'. A law counts once. -/
mutual
def uptoBulk {H : Type} : DataW H → Nat
  | .lit (.string bytes) => bytes.length + 1
  | .lit _ => 1
  | .nil => 1
  | .ptr d => uptoBulk d + 1
  | .slice elems spare => uptoBulkAll elems + uptoBulkAll spare + 1
  | .agg parts => uptoBulkAll parts + 1
  | .iface _ d => uptoBulk d + 1
  | .map entries => uptoBulkEntries entries + 1
  | .held _ => 1
def uptoBulkAll {H : Type} : List (DataW H) → Nat
  | [] => 0
  | d :: r => uptoBulk d + uptoBulkAll r
def uptoBulkEntries {H : Type} : List (Lit × DataW H) → Nat
  | [] => 0
  | x :: r => uptoBulkEntry x + uptoBulkEntries r
def uptoBulkEntry {H : Type} : Lit × DataW H → Nat
  | (.string bytes, d) => bytes.length + uptoBulk d + 1
  | (_, d) => uptoBulk d + 1
 end
def uptoSmall : (H : Type) → List (DataW H) → Bool := fun _ ds => decide (uptoBulkAll ds ≤ 1048576)
def OpenSpec.upto (s : _root_.Go.ChangeSpec) : _root_.Go.OpenSpec := { _root_.Go.OpenSpec.ofChange s with cond := some uptoSmall }

/-- 'porismlaw28.SideSense', WHERE WHAT IT READS IS OF BULK AT MOST 1048576: true; the input reads as it did. -/
def sideSenseUptoRow : OpenClaim := { program := "ytbfflodidkfphaagreat", sum := "96fac3fa276bf18597f5f00a9a70961d6d7103739dec41ca04b03af82cc5842b", func := "porism/porismlaw28.SideSense", spec := "sideSense", unfollowed := true, recurses := true, apart := false, narrowed := true }
def SideSenseUptoSaid : Prop := sideSenseUptoRow.holds Tryz.pinned (OpenSpec.upto sideSenseSpec)

/-- 'porismlaw28.SideBack', WHERE WHAT IT READS IS OF BULK AT MOST 1048576: true; the input reads as it did. -/
def sideBackUptoRow : OpenClaim := { program := "ytbfflodidkfphaagreat", sum := "96fac3fa276bf18597f5f00a9a70961d6d7103739dec41ca04b03af82cc5842b", func := "porism/porismlaw28.SideBack", spec := "sideBack", unfollowed := true, recurses := true, apart := false, narrowed := true }
def SideBackUptoSaid : Prop := sideBackUptoRow.holds Tryz.pinned (OpenSpec.upto sideBackSpec)

/-- 'porismlaw28.SideTells', WHERE WHAT IT READS IS OF BULK AT MOST 1048576: true; the input reads as it did. -/
def sideTellsUptoRow : OpenClaim := { program := "ytbfflodidkfphaagreat", sum := "96fac3fa276bf18597f5f00a9a70961d6d7103739dec41ca04b03af82cc5842b", func := "porism/porismlaw28.SideTells", spec := "sideTells", unfollowed := true, recurses := true, apart := false, narrowed := true }
def SideTellsUptoSaid : Prop := sideTellsUptoRow.holds Tryz.pinned (OpenSpec.upto sideTellsSpec)

end Rows
end Go.Proofs.YtbfflodidkfphaaGreat
