/-
  DERIVED. GIVEN WITH THE SEED: THE CARDS: each row of YtjbglifmppilfaaDoorRows.lean that lists a variable, with what it lists TIED to the program's text (the seventh form; the later family's looks); each row that meets fmt, with fmt's text TOLD by the authors' own Lean function (tested against real Go, not proved from fmt's source: count such statements apart). THE CARD IS WHAT COUNTS. Prove the row's statement (the work); the ties are given (YtjbglifmppilfaaDoorTie.lean); close each card by the builder's one call (the guide's Derived/Test/ToyasCard.lean, 'card_holds'). Laid BY PROGRAM, IN A SANDBOX (cutbox-door.mjs). By AI agents, Wed Nov 11 2026. No macro, syntax, notation, axiom, sorry.
-/
import Derived.Test.YtjbglifmppilfaaDoorRows
import GoSem.ClaimSeven
namespace Go.Proofs.YtjbglifmppilfaaDoor
namespace Rows

/-- THE TIED CARD OF 'causewaylaw09.HopsChecks'. -/
def hopsChecksCard : Claim7 := { stood := { row := hopsChecksRow, standIns := [], harness := (true, "20f1b62bafe0e08d68a07eaea5b9441e46ed3ef4053adb8627ae8a91751806ff"), looks := false }, kinds := [], alts := [], laidByText := true, laidKinds := [.data], laidTests := true, laidLooks := .later }
def HopsChecksCardSaid : Prop := Claim7.holds Tryd.pinned (.plain (OpenSpec.ofChange hopsChecksSpec)) hopsChecksCard

/-- THE TIED CARD OF 'causewaylaw13.AltSquare'. -/
def altSquareCard : Claim7 := { stood := { row := altSquareRow, standIns := [], harness := (true, "20f1b62bafe0e08d68a07eaea5b9441e46ed3ef4053adb8627ae8a91751806ff"), looks := false }, kinds := [], alts := [], laidByText := true, laidKinds := [.data], laidTests := true, laidLooks := .later }
def AltSquareCardSaid : Prop := Claim7.holds Tryd.pinned (.plain (OpenSpec.ofChange altSquareSpec)) altSquareCard

/-- THE SECOND FORM's CARD OF 'causewaylaw09.HopsChecks'. -/
def hopsChecksUptoCard : Claim7 := { stood := { row := hopsChecksUptoRow, standIns := [], harness := (true, "20f1b62bafe0e08d68a07eaea5b9441e46ed3ef4053adb8627ae8a91751806ff"), looks := false }, kinds := [], alts := [], laidByText := true, laidKinds := [.data], laidTests := true, laidLooks := .later }
def HopsChecksUptoCardSaid : Prop := Claim7.holds Tryd.pinned (.plain (OpenSpec.upto hopsChecksSpec)) hopsChecksUptoCard

/-- THE SECOND FORM's CARD OF 'causewaylaw13.AltSquare'. -/
def altSquareUptoCard : Claim7 := { stood := { row := altSquareUptoRow, standIns := [], harness := (true, "20f1b62bafe0e08d68a07eaea5b9441e46ed3ef4053adb8627ae8a91751806ff"), looks := false }, kinds := [], alts := [], laidByText := true, laidKinds := [.data], laidTests := true, laidLooks := .later }
def AltSquareUptoCardSaid : Prop := Claim7.holds Tryd.pinned (.plain (OpenSpec.upto altSquareSpec)) altSquareUptoCard
end Rows
end Go.Proofs.YtjbglifmppilfaaDoor
