/-
  No cell of these rows narrows 'for every input' (looked for: loops, veiled, ifaces, maps, wideKeys, modest, calm, conditions, laid).
  DERIVED. THE GIVEN ROWS OF THIS SEAT. 3 by the template 'for every input the law returns true; each argument reads behind the call as it read before'; 0 by the template 'total and deterministic' (their statements: YtpklcefiabjplaaTotals.lean).
  GIVEN WITH THE SEED: the statements are not yours to turn. If you find one false, say at which input.
  Laid BY PROGRAM, IN A SANDBOX (cutbox-rows.mjs): the forced cells as the released guide's own fill.sh prints them over the translation dc63589e370fcbaa… (all of the seat's roots in one cut). By AI agents, Wed Nov 11 2026. No macro, syntax, notation, axiom, sorry.
-/
import Derived.Test.YtpklcefiabjplaaChecked
import GoSem.Claim
import GoSem.ClaimJoined
import GoSem.ClaimMapViews
import Derived.JoinedTies
import Derived.KernelRfl
namespace Go.Proofs.Ytpklcefiabjplaa
/- THE CELL 'sum', in the pinned program and in every row, IS THE sha256 OF THE DUMP (.gsa) THAT YtpklcefiabjplaaProg.lean LOADS. Nothing in Lean hashes anything: it is a label: what it is worth is what the hold of that sum in a sandbox is worth. -/
noncomputable def Try.pinned : Pinned := { name := "ytpklcefiabjplaa", sum := "dc63589e370fcbaa40fdd4ecd1a92b2675941c84a5e9e2142c2a37d1f980d04f", checked := Try.checked }
namespace Rows
def none {H : Type} : Left H := { results := [], args := [] }

/-- 'causewaylaw14.ReachRings': WHATEVER THE INPUT: true; the input reads as it did. -/
def reachRingsSpec : ChangeSpec := { name := "reachRings", fn := fun _ => fun
  | [d1, d2] => { results := [.lit (.bool true)], args := [d1, d2] }
  | _ => none }
def reachRingsRow : OpenClaim := { program := "ytpklcefiabjplaa", sum := "dc63589e370fcbaa40fdd4ecd1a92b2675941c84a5e9e2142c2a37d1f980d04f", func := "causeway/causewaylaw14.ReachRings", spec := "reachRings", unfollowed := true, recurses := true, apart := false }
def ReachRingsSaid : Prop := reachRingsRow.holds Try.pinned (OpenSpec.ofChange reachRingsSpec)

/-- ITS FALSE NEIGHBOUR: 'it returns false'. Refute it at one input. -/
def reachRingsWrong : ChangeSpec := { name := "reachRings", fn := fun _ => fun
  | [d1, d2] => { results := [.lit (.bool false)], args := [d1, d2] }
  | _ => none }
def ReachRingsWrongFalsely : Prop := reachRingsRow.holds Try.pinned (OpenSpec.ofChange reachRingsWrong)

/-- 'causewaylaw06.GraphFull': WHATEVER THE INPUT: true; the input reads as it did. -/
def graphFullSpec : ChangeSpec := { name := "graphFull", fn := fun _ => fun
  | [d] => { results := [.lit (.bool true)], args := [d] }
  | _ => none }
def graphFullRow : OpenClaim := { program := "ytpklcefiabjplaa", sum := "dc63589e370fcbaa40fdd4ecd1a92b2675941c84a5e9e2142c2a37d1f980d04f", func := "causeway/causewaylaw06.GraphFull", spec := "graphFull", inPlace := ["slices.overlaps[causeway/api.Node]", "slices.overlaps[causeway/api.Pin]", "slices.overlaps[causeway/api.Link]"], unfollowed := true, recurses := true, apart := false }
def GraphFullSaid : Prop := graphFullRow.holds Try.pinned (OpenSpec.ofChange graphFullSpec)

/-- ITS FALSE NEIGHBOUR: 'it returns false'. Refute it at one input. -/
def graphFullWrong : ChangeSpec := { name := "graphFull", fn := fun _ => fun
  | [d] => { results := [.lit (.bool false)], args := [d] }
  | _ => none }
def GraphFullWrongFalsely : Prop := graphFullRow.holds Try.pinned (OpenSpec.ofChange graphFullWrong)

/-- 'causewaylaw11.DualLarge': WHATEVER THE INPUT: true; the input reads as it did. -/
def dualLargeSpec : ChangeSpec := { name := "dualLarge", fn := fun _ => fun
  | [d] => { results := [.lit (.bool true)], args := [d] }
  | _ => none }
def dualLargeRow : OpenClaim := { program := "ytpklcefiabjplaa", sum := "dc63589e370fcbaa40fdd4ecd1a92b2675941c84a5e9e2142c2a37d1f980d04f", func := "causeway/causewaylaw11.DualLarge", spec := "dualLarge", inPlace := ["slices.overlaps[causeway/dual.label]"], unfollowed := true, recurses := true, apart := false }
def DualLargeSaid : Prop := dualLargeRow.holds Try.pinned (OpenSpec.ofChange dualLargeSpec)

/-- ITS FALSE NEIGHBOUR: 'it returns false'. Refute it at one input. -/
def dualLargeWrong : ChangeSpec := { name := "dualLarge", fn := fun _ => fun
  | [d] => { results := [.lit (.bool false)], args := [d] }
  | _ => none }
def DualLargeWrongFalsely : Prop := dualLargeRow.holds Try.pinned (OpenSpec.ofChange dualLargeWrong)

/- THE SECOND FORM. 'bulk': how many values and letters a reading holds, each counted each time it is reached (what is shared counts as often as it is met; a slice's spare places count too). A statement '..UptoSaid' is the law's where the arguments, and the package variables that the reading takes, are together of bulk at most 1048576: NARROWER than '..Said'. Prove '..Said' where nothing that the law and all that it calls make is longer than what came in: it says more and counts as full. Else prove '..UptoSaid'. A law counts once. -/
mutual
def uptoBulk {H : Type} : DataW H → Nat
  | .lit (.string bytes) => bytes.length + 1
  | .lit _ => 1
  | .nil => 1
  | .ptr d => uptoBulk d + 1
  | .slice elems spare => uptoBulkAll elems + uptoBulkAll spare + 1
  | .agg parts => uptoBulkAll parts + 1
  | .iface _ d => uptoBulk d + 1
  | .map entries => uptoBulkEntries entries + 1
  | .held _ => 1
def uptoBulkAll {H : Type} : List (DataW H) → Nat
  | [] => 0
  | d :: r => uptoBulk d + uptoBulkAll r
def uptoBulkEntries {H : Type} : List (Lit × DataW H) → Nat
  | [] => 0
  | x :: r => uptoBulkEntry x + uptoBulkEntries r
def uptoBulkEntry {H : Type} : Lit × DataW H → Nat
  | (.string bytes, d) => bytes.length + uptoBulk d + 1
  | (_, d) => uptoBulk d + 1
 end
def uptoSmall : (H : Type) → List (DataW H) → Bool := fun _ ds => decide (uptoBulkAll ds ≤ 1048576)
def OpenSpec.upto (s : _root_.Go.ChangeSpec) : _root_.Go.OpenSpec := { _root_.Go.OpenSpec.ofChange s with cond := some uptoSmall }

/-- 'causewaylaw14.ReachRings', WHERE WHAT IT READS IS OF BULK AT MOST 1048576: true; the input reads as it did. -/
def reachRingsUptoRow : OpenClaim := { program := "ytpklcefiabjplaa", sum := "dc63589e370fcbaa40fdd4ecd1a92b2675941c84a5e9e2142c2a37d1f980d04f", func := "causeway/causewaylaw14.ReachRings", spec := "reachRings", unfollowed := true, recurses := true, apart := false, narrowed := true }
def ReachRingsUptoSaid : Prop := reachRingsUptoRow.holds Try.pinned (OpenSpec.upto reachRingsSpec)

/-- 'causewaylaw06.GraphFull', WHERE WHAT IT READS IS OF BULK AT MOST 1048576: true; the input reads as it did. -/
def graphFullUptoRow : OpenClaim := { program := "ytpklcefiabjplaa", sum := "dc63589e370fcbaa40fdd4ecd1a92b2675941c84a5e9e2142c2a37d1f980d04f", func := "causeway/causewaylaw06.GraphFull", spec := "graphFull", inPlace := ["slices.overlaps[causeway/api.Node]", "slices.overlaps[causeway/api.Pin]", "slices.overlaps[causeway/api.Link]"], unfollowed := true, recurses := true, apart := false, narrowed := true }
def GraphFullUptoSaid : Prop := graphFullUptoRow.holds Try.pinned (OpenSpec.upto graphFullSpec)

/-- 'causewaylaw11.DualLarge', WHERE WHAT IT READS IS OF BULK AT MOST 1048576: true; the input reads as it did. -/
def dualLargeUptoRow : OpenClaim := { program := "ytpklcefiabjplaa", sum := "dc63589e370fcbaa40fdd4ecd1a92b2675941c84a5e9e2142c2a37d1f980d04f", func := "causeway/causewaylaw11.DualLarge", spec := "dualLarge", inPlace := ["slices.overlaps[causeway/dual.label]"], unfollowed := true, recurses := true, apart := false, narrowed := true }
def DualLargeUptoSaid : Prop := dualLargeUptoRow.holds Try.pinned (OpenSpec.upto dualLargeSpec)

end Rows
end Go.Proofs.Ytpklcefiabjplaa
