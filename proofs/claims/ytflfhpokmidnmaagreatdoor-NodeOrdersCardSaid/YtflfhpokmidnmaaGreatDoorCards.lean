/-
  DERIVED. GIVEN WITH THE SEED: THE CARDS: each row of YtflfhpokmidnmaaGreatDoorRows.lean that lists a variable, with what it lists TIED to the program's text (the seventh form; the later family's looks); each row that meets fmt, with fmt's text TOLD by the authors' own Lean function (tested against real Go, not proved from fmt's source: count such statements apart). THE CARD IS WHAT COUNTS. Prove the row's statement (the work); the ties are given (YtflfhpokmidnmaaGreatDoorTie.lean); close each card by the builder's one call (the guide's Derived/Test/ToyasCard.lean, 'card_holds'). Laid BY PROGRAM, IN A SANDBOX (cutbox-door.mjs). By AI agents, Wed Nov 11 2026. No macro, syntax, notation, axiom, sorry.
-/
import Derived.Test.YtflfhpokmidnmaaGreatDoorRows
import GoSem.ClaimSeven
namespace Go.Proofs.YtflfhpokmidnmaaGreatDoor
namespace Rows

/-- THE TIED CARD OF 'grapevinelaw21.NodeFull'. -/
def nodeFullCard : Claim7 := { stood := { row := nodeFullRow, standIns := [], harness := (true, "1fb832a1336bd776ecb6f92e5561bc07a83e7038dc572af848d7fb92e60872a6"), looks := true }, kinds := [], alts := [], laidByText := true, laidKinds := [.data, .data, .data, .data, .sentinel, .sentinel, .data, .pinned, .pinned, .pinned, .pinned], laidTests := true, laidLooks := .later }
def NodeFullCardSaid : Prop := Claim7.holds Tryz.pinned (.plain (OpenSpec.ofChange nodeFullSpec)) nodeFullCard

/-- THE TIED CARD OF 'grapevinelaw21.NodeOrders'. -/
def nodeOrdersCard : Claim7 := { stood := { row := nodeOrdersRow, standIns := [], harness := (true, "1fb832a1336bd776ecb6f92e5561bc07a83e7038dc572af848d7fb92e60872a6"), looks := true }, kinds := [], alts := [], laidByText := true, laidKinds := [.data, .data, .data, .data, .sentinel, .sentinel, .data, .pinned, .pinned, .pinned, .pinned], laidTests := true, laidLooks := .later }
def NodeOrdersCardSaid : Prop := Claim7.holds Tryz.pinned (.plain (OpenSpec.ofChange nodeOrdersSpec)) nodeOrdersCard

/-- THE TIED CARD OF 'grapevinelaw21.NodeSkew'. -/
def nodeSkewCard : Claim7 := { stood := { row := nodeSkewRow, standIns := [], harness := (true, "1fb832a1336bd776ecb6f92e5561bc07a83e7038dc572af848d7fb92e60872a6"), looks := true }, kinds := [], alts := [], laidByText := true, laidKinds := [.data, .data, .data, .data, .sentinel, .sentinel, .data, .pinned, .pinned, .pinned, .pinned], laidTests := true, laidLooks := .later }
def NodeSkewCardSaid : Prop := Claim7.holds Tryz.pinned (.plain (OpenSpec.ofChange nodeSkewSpec)) nodeSkewCard

/-- THE TIED CARD OF 'grapevinelaw21.NodeNumbers'. -/
def nodeNumbersCard : Claim7 := { stood := { row := nodeNumbersRow, standIns := [], harness := (true, "1fb832a1336bd776ecb6f92e5561bc07a83e7038dc572af848d7fb92e60872a6"), looks := true }, kinds := [], alts := [], laidByText := true, laidKinds := [.data, .data, .data, .data, .sentinel, .sentinel, .data, .pinned, .pinned, .pinned, .pinned], laidTests := true, laidLooks := .later }
def NodeNumbersCardSaid : Prop := Claim7.holds Tryz.pinned (.plain (OpenSpec.ofChange nodeNumbersSpec)) nodeNumbersCard

/-- THE SECOND FORM's CARD OF 'grapevinelaw21.NodeFull'. -/
def nodeFullUptoCard : Claim7 := { stood := { row := nodeFullUptoRow, standIns := [], harness := (true, "1fb832a1336bd776ecb6f92e5561bc07a83e7038dc572af848d7fb92e60872a6"), looks := true }, kinds := [], alts := [], laidByText := true, laidKinds := [.data, .data, .data, .data, .sentinel, .sentinel, .data, .pinned, .pinned, .pinned, .pinned], laidTests := true, laidLooks := .later }
def NodeFullUptoCardSaid : Prop := Claim7.holds Tryz.pinned (.plain (OpenSpec.upto nodeFullSpec)) nodeFullUptoCard

/-- THE SECOND FORM's CARD OF 'grapevinelaw21.NodeOrders'. -/
def nodeOrdersUptoCard : Claim7 := { stood := { row := nodeOrdersUptoRow, standIns := [], harness := (true, "1fb832a1336bd776ecb6f92e5561bc07a83e7038dc572af848d7fb92e60872a6"), looks := true }, kinds := [], alts := [], laidByText := true, laidKinds := [.data, .data, .data, .data, .sentinel, .sentinel, .data, .pinned, .pinned, .pinned, .pinned], laidTests := true, laidLooks := .later }
def NodeOrdersUptoCardSaid : Prop := Claim7.holds Tryz.pinned (.plain (OpenSpec.upto nodeOrdersSpec)) nodeOrdersUptoCard

/-- THE SECOND FORM's CARD OF 'grapevinelaw21.NodeSkew'. -/
def nodeSkewUptoCard : Claim7 := { stood := { row := nodeSkewUptoRow, standIns := [], harness := (true, "1fb832a1336bd776ecb6f92e5561bc07a83e7038dc572af848d7fb92e60872a6"), looks := true }, kinds := [], alts := [], laidByText := true, laidKinds := [.data, .data, .data, .data, .sentinel, .sentinel, .data, .pinned, .pinned, .pinned, .pinned], laidTests := true, laidLooks := .later }
def NodeSkewUptoCardSaid : Prop := Claim7.holds Tryz.pinned (.plain (OpenSpec.upto nodeSkewSpec)) nodeSkewUptoCard

/-- THE SECOND FORM's CARD OF 'grapevinelaw21.NodeNumbers'. -/
def nodeNumbersUptoCard : Claim7 := { stood := { row := nodeNumbersUptoRow, standIns := [], harness := (true, "1fb832a1336bd776ecb6f92e5561bc07a83e7038dc572af848d7fb92e60872a6"), looks := true }, kinds := [], alts := [], laidByText := true, laidKinds := [.data, .data, .data, .data, .sentinel, .sentinel, .data, .pinned, .pinned, .pinned, .pinned], laidTests := true, laidLooks := .later }
def NodeNumbersUptoCardSaid : Prop := Claim7.holds Tryz.pinned (.plain (OpenSpec.upto nodeNumbersSpec)) nodeNumbersUptoCard
end Rows
end Go.Proofs.YtflfhpokmidnmaaGreatDoor
