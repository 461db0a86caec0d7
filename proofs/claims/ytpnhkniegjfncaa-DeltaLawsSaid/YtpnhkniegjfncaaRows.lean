/-
  No cell of these rows narrows 'for every input' (looked for: loops, veiled, ifaces, maps, wideKeys, modest, calm, conditions, laid).
  DERIVED. THE GIVEN ROWS OF THIS SEAT. 6 by the template 'for every input the law returns true; each argument reads behind the call as it read before'; 0 by the template 'total and deterministic' (their statements: YtpnhkniegjfncaaTotals.lean).
  GIVEN WITH THE SEED: the statements are not yours to turn. If you find one false, say at which input.
  Laid BY PROGRAM, IN A SANDBOX (cutbox-rows.mjs): the forced cells as the released guide's own fill.sh prints them over the translation db603ce9e02fd5b3… (all of the seat's roots in one cut). By AI agents, Wed Nov 11 2026. No macro, syntax, notation, axiom, sorry.
-/
import Derived.Test.YtpnhkniegjfncaaChecked
import GoSem.Claim
import GoSem.ClaimJoined
import GoSem.ClaimMapViews
import Derived.JoinedTies
import Derived.KernelRfl
namespace Go.Proofs.Ytpnhkniegjfncaa
/- THE CELL 'sum', in the pinned program and in every row, IS THE sha256 OF THE DUMP (.gsa) THAT YtpnhkniegjfncaaProg.lean LOADS. Nothing in Lean hashes anything: it is a label: what it is worth is what the hold of that sum in a sandbox is worth. -/
noncomputable def Try.pinned : Pinned := { name := "ytpnhkniegjfncaa", sum := "db603ce9e02fd5b3616d77aed716efa88bea8b68c4f36d21d1222f9c6b137679", checked := Try.checked }
namespace Rows
def none {H : Type} : Left H := { results := [], args := [] }

/-- 'causewaylaw16.DeltaAlls': WHATEVER THE INPUT: true; the input reads as it did. -/
def deltaAllsSpec : ChangeSpec := { name := "deltaAlls", fn := fun _ => fun
  | [d1, d2, d3] => { results := [.lit (.bool true)], args := [d1, d2, d3] }
  | _ => none }
def deltaAllsRow : OpenClaim := { program := "ytpnhkniegjfncaa", sum := "db603ce9e02fd5b3616d77aed716efa88bea8b68c4f36d21d1222f9c6b137679", func := "causeway/causewaylaw16.DeltaAlls", spec := "deltaAlls", unfollowed := true, recurses := true, apart := false }
def DeltaAllsSaid : Prop := deltaAllsRow.holds Try.pinned (OpenSpec.ofChange deltaAllsSpec)

/-- ITS FALSE NEIGHBOUR: 'it returns false'. Refute it at one input. -/
def deltaAllsWrong : ChangeSpec := { name := "deltaAlls", fn := fun _ => fun
  | [d1, d2, d3] => { results := [.lit (.bool false)], args := [d1, d2, d3] }
  | _ => none }
def DeltaAllsWrongFalsely : Prop := deltaAllsRow.holds Try.pinned (OpenSpec.ofChange deltaAllsWrong)

/-- 'causewaylaw16.DeltaEnds': WHATEVER THE INPUT: true; the input reads as it did. -/
def deltaEndsSpec : ChangeSpec := { name := "deltaEnds", fn := fun _ => fun
  | [d] => { results := [.lit (.bool true)], args := [d] }
  | _ => none }
def deltaEndsRow : OpenClaim := { program := "ytpnhkniegjfncaa", sum := "db603ce9e02fd5b3616d77aed716efa88bea8b68c4f36d21d1222f9c6b137679", func := "causeway/causewaylaw16.DeltaEnds", spec := "deltaEnds", unfollowed := true, recurses := true, apart := false }
def DeltaEndsSaid : Prop := deltaEndsRow.holds Try.pinned (OpenSpec.ofChange deltaEndsSpec)

/-- ITS FALSE NEIGHBOUR: 'it returns false'. Refute it at one input. -/
def deltaEndsWrong : ChangeSpec := { name := "deltaEnds", fn := fun _ => fun
  | [d] => { results := [.lit (.bool false)], args := [d] }
  | _ => none }
def DeltaEndsWrongFalsely : Prop := deltaEndsRow.holds Try.pinned (OpenSpec.ofChange deltaEndsWrong)

/-- 'causewaylaw16.DeltaBacks': WHATEVER THE INPUT: true; the input reads as it did. -/
def deltaBacksSpec : ChangeSpec := { name := "deltaBacks", fn := fun _ => fun
  | [d] => { results := [.lit (.bool true)], args := [d] }
  | _ => none }
def deltaBacksRow : OpenClaim := { program := "ytpnhkniegjfncaa", sum := "db603ce9e02fd5b3616d77aed716efa88bea8b68c4f36d21d1222f9c6b137679", func := "causeway/causewaylaw16.DeltaBacks", spec := "deltaBacks", unfollowed := true, recurses := true, apart := false }
def DeltaBacksSaid : Prop := deltaBacksRow.holds Try.pinned (OpenSpec.ofChange deltaBacksSpec)

/-- ITS FALSE NEIGHBOUR: 'it returns false'. Refute it at one input. -/
def deltaBacksWrong : ChangeSpec := { name := "deltaBacks", fn := fun _ => fun
  | [d] => { results := [.lit (.bool false)], args := [d] }
  | _ => none }
def DeltaBacksWrongFalsely : Prop := deltaBacksRow.holds Try.pinned (OpenSpec.ofChange deltaBacksWrong)

/-- 'causewaylaw16.DeltaJoins': WHATEVER THE INPUT: true; the input reads as it did. -/
def deltaJoinsSpec : ChangeSpec := { name := "deltaJoins", fn := fun _ => fun
  | [d1, d2] => { results := [.lit (.bool true)], args := [d1, d2] }
  | _ => none }
def deltaJoinsRow : OpenClaim := { program := "ytpnhkniegjfncaa", sum := "db603ce9e02fd5b3616d77aed716efa88bea8b68c4f36d21d1222f9c6b137679", func := "causeway/causewaylaw16.DeltaJoins", spec := "deltaJoins", unfollowed := true, recurses := true, apart := false }
def DeltaJoinsSaid : Prop := deltaJoinsRow.holds Try.pinned (OpenSpec.ofChange deltaJoinsSpec)

/-- ITS FALSE NEIGHBOUR: 'it returns false'. Refute it at one input. -/
def deltaJoinsWrong : ChangeSpec := { name := "deltaJoins", fn := fun _ => fun
  | [d1, d2] => { results := [.lit (.bool false)], args := [d1, d2] }
  | _ => none }
def DeltaJoinsWrongFalsely : Prop := deltaJoinsRow.holds Try.pinned (OpenSpec.ofChange deltaJoinsWrong)

/-- 'causewaylaw16.DeltaApplies': WHATEVER THE INPUT: true; the input reads as it did. -/
def deltaAppliesSpec : ChangeSpec := { name := "deltaApplies", fn := fun _ => fun
  | [d1, d2] => { results := [.lit (.bool true)], args := [d1, d2] }
  | _ => none }
def deltaAppliesRow : OpenClaim := { program := "ytpnhkniegjfncaa", sum := "db603ce9e02fd5b3616d77aed716efa88bea8b68c4f36d21d1222f9c6b137679", func := "causeway/causewaylaw16.DeltaApplies", spec := "deltaApplies", inPlace := ["slices.overlaps[causeway/api.Route]"], unfollowed := true, recurses := true, apart := false }
def DeltaAppliesSaid : Prop := deltaAppliesRow.holds Try.pinned (OpenSpec.ofChange deltaAppliesSpec)

/-- ITS FALSE NEIGHBOUR: 'it returns false'. Refute it at one input. -/
def deltaAppliesWrong : ChangeSpec := { name := "deltaApplies", fn := fun _ => fun
  | [d1, d2] => { results := [.lit (.bool false)], args := [d1, d2] }
  | _ => none }
def DeltaAppliesWrongFalsely : Prop := deltaAppliesRow.holds Try.pinned (OpenSpec.ofChange deltaAppliesWrong)

/-- 'causewaylaw16.DeltaLaws': WHATEVER THE INPUT: true; the input reads as it did. -/
def deltaLawsSpec : ChangeSpec := { name := "deltaLaws", fn := fun _ => fun
  | [d1, d2, d3] => { results := [.lit (.bool true)], args := [d1, d2, d3] }
  | _ => none }
def deltaLawsRow : OpenClaim := { program := "ytpnhkniegjfncaa", sum := "db603ce9e02fd5b3616d77aed716efa88bea8b68c4f36d21d1222f9c6b137679", func := "causeway/causewaylaw16.DeltaLaws", spec := "deltaLaws", inPlace := ["slices.overlaps[causeway/api.Route]"], unfollowed := true, recurses := true, apart := false }
def DeltaLawsSaid : Prop := deltaLawsRow.holds Try.pinned (OpenSpec.ofChange deltaLawsSpec)

/-- ITS FALSE NEIGHBOUR: 'it returns false'. Refute it at one input. -/
def deltaLawsWrong : ChangeSpec := { name := "deltaLaws", fn := fun _ => fun
  | [d1, d2, d3] => { results := [.lit (.bool false)], args := [d1, d2, d3] }
  | _ => none }
def DeltaLawsWrongFalsely : Prop := deltaLawsRow.holds Try.pinned (OpenSpec.ofChange deltaLawsWrong)

/- THE SECOND FORM. 'bulk': how many values and letters a reading holds, each counted each time it is reached (what is shared counts as often as it is met; a slice's spare places count too). A statement '..UptoSaid' is the law's where the arguments, and the package variables that the reading takes, are together of bulk at most 1048576: NARROWER than '..Said'. Prove '..Said' where nothing that the law and all that it calls make is longer than what came in: it says more and counts as full. Else prove '..UptoSaid'. A law counts once. -/
mutual
def uptoBulk {H : Type} : DataW H → Nat
  | .lit (.string bytes) => bytes.length + 1
  | .lit _ => 1
  | .nil => 1
  | .ptr d => uptoBulk d + 1
  | .slice elems spare => uptoBulkAll elems + uptoBulkAll spare + 1
  | .agg parts => uptoBulkAll parts + 1
  | .iface _ d => uptoBulk d + 1
  | .map entries => uptoBulkEntries entries + 1
  | .held _ => 1
def uptoBulkAll {H : Type} : List (DataW H) → Nat
  | [] => 0
  | d :: r => uptoBulk d + uptoBulkAll r
def uptoBulkEntries {H : Type} : List (Lit × DataW H) → Nat
  | [] => 0
  | x :: r => uptoBulkEntry x + uptoBulkEntries r
def uptoBulkEntry {H : Type} : Lit × DataW H → Nat
  | (.string bytes, d) => bytes.length + uptoBulk d + 1
  | (_, d) => uptoBulk d + 1
 end
def uptoSmall : (H : Type) → List (DataW H) → Bool := fun _ ds => decide (uptoBulkAll ds ≤ 1048576)
def OpenSpec.upto (s : _root_.Go.ChangeSpec) : _root_.Go.OpenSpec := { _root_.Go.OpenSpec.ofChange s with cond := some uptoSmall }

/-- 'causewaylaw16.DeltaAlls', WHERE WHAT IT READS IS OF BULK AT MOST 1048576: true; the input reads as it did. -/
def deltaAllsUptoRow : OpenClaim := { program := "ytpnhkniegjfncaa", sum := "db603ce9e02fd5b3616d77aed716efa88bea8b68c4f36d21d1222f9c6b137679", func := "causeway/causewaylaw16.DeltaAlls", spec := "deltaAlls", unfollowed := true, recurses := true, apart := false, narrowed := true }
def DeltaAllsUptoSaid : Prop := deltaAllsUptoRow.holds Try.pinned (OpenSpec.upto deltaAllsSpec)

/-- 'causewaylaw16.DeltaEnds', WHERE WHAT IT READS IS OF BULK AT MOST 1048576: true; the input reads as it did. -/
def deltaEndsUptoRow : OpenClaim := { program := "ytpnhkniegjfncaa", sum := "db603ce9e02fd5b3616d77aed716efa88bea8b68c4f36d21d1222f9c6b137679", func := "causeway/causewaylaw16.DeltaEnds", spec := "deltaEnds", unfollowed := true, recurses := true, apart := false, narrowed := true }
def DeltaEndsUptoSaid : Prop := deltaEndsUptoRow.holds Try.pinned (OpenSpec.upto deltaEndsSpec)

/-- 'causewaylaw16.DeltaBacks', WHERE WHAT IT READS IS OF BULK AT MOST 1048576: true; the input reads as it did. -/
def deltaBacksUptoRow : OpenClaim := { program := "ytpnhkniegjfncaa", sum := "db603ce9e02fd5b3616d77aed716efa88bea8b68c4f36d21d1222f9c6b137679", func := "causeway/causewaylaw16.DeltaBacks", spec := "deltaBacks", unfollowed := true, recurses := true, apart := false, narrowed := true }
def DeltaBacksUptoSaid : Prop := deltaBacksUptoRow.holds Try.pinned (OpenSpec.upto deltaBacksSpec)

/-- 'causewaylaw16.DeltaJoins', WHERE WHAT IT READS IS OF BULK AT MOST 1048576: true; the input reads as it did. -/
def deltaJoinsUptoRow : OpenClaim := { program := "ytpnhkniegjfncaa", sum := "db603ce9e02fd5b3616d77aed716efa88bea8b68c4f36d21d1222f9c6b137679", func := "causeway/causewaylaw16.DeltaJoins", spec := "deltaJoins", unfollowed := true, recurses := true, apart := false, narrowed := true }
def DeltaJoinsUptoSaid : Prop := deltaJoinsUptoRow.holds Try.pinned (OpenSpec.upto deltaJoinsSpec)

/-- 'causewaylaw16.DeltaApplies', WHERE WHAT IT READS IS OF BULK AT MOST 1048576: true; the input reads as it did. -/
def deltaAppliesUptoRow : OpenClaim := { program := "ytpnhkniegjfncaa", sum := "db603ce9e02fd5b3616d77aed716efa88bea8b68c4f36d21d1222f9c6b137679", func := "causeway/causewaylaw16.DeltaApplies", spec := "deltaApplies", inPlace := ["slices.overlaps[causeway/api.Route]"], unfollowed := true, recurses := true, apart := false, narrowed := true }
def DeltaAppliesUptoSaid : Prop := deltaAppliesUptoRow.holds Try.pinned (OpenSpec.upto deltaAppliesSpec)

/-- 'causewaylaw16.DeltaLaws', WHERE WHAT IT READS IS OF BULK AT MOST 1048576: true; the input reads as it did. -/
def deltaLawsUptoRow : OpenClaim := { program := "ytpnhkniegjfncaa", sum := "db603ce9e02fd5b3616d77aed716efa88bea8b68c4f36d21d1222f9c6b137679", func := "causeway/causewaylaw16.DeltaLaws", spec := "deltaLaws", inPlace := ["slices.overlaps[causeway/api.Route]"], unfollowed := true, recurses := true, apart := false, narrowed := true }
def DeltaLawsUptoSaid : Prop := deltaLawsUptoRow.holds Try.pinned (OpenSpec.upto deltaLawsSpec)

end Rows
end Go.Proofs.Ytpnhkniegjfncaa
