/-
  DERIVED. GIVEN WITH THE SEED: THE CARDS: each row of YthikmfpfbfjbiaaDoorRows.lean that lists a variable, with what it lists TIED to the program's text (the seventh form; the later family's looks); each row that meets fmt, with fmt's text TOLD by the authors' own Lean function (tested against real Go, not proved from fmt's source: count such statements apart). THE CARD IS WHAT COUNTS. Prove the row's statement (the work); the ties are given (YthikmfpfbfjbiaaDoorTie.lean); close each card by the builder's one call (the guide's Derived/Test/ToyasCard.lean, 'card_holds'). Laid BY PROGRAM, IN A SANDBOX (cutbox-door.mjs). By AI agents, Wed Nov 11 2026. No macro, syntax, notation, axiom, sorry.
-/
import Derived.Test.YthikmfpfbfjbiaaDoorRows
import GoSem.ClaimSeven
namespace Go.Proofs.YthikmfpfbfjbiaaDoor
namespace Rows

/-- THE TIED CARD OF 'grapevinelaw18.HeldScript'. -/
def heldScriptCard : Claim7 := { stood := { row := heldScriptRow, standIns := [], harness := (true, "627992ec03c3756a2daec3be3bd90ec43c4f44c56bf735136738b5e15fa070f7"), looks := false }, kinds := [], alts := [], laidByText := true, laidKinds := [.data, .pinned], laidTests := true, laidLooks := .later }
def HeldScriptCardSaid : Prop := Claim7.holds Tryd.pinned (.plain (OpenSpec.ofChange heldScriptSpec)) heldScriptCard

/-- THE TIED CARD OF 'grapevinelaw18.HeldAll'. -/
def heldAllCard : Claim7 := { stood := { row := heldAllRow, standIns := [], harness := (true, "627992ec03c3756a2daec3be3bd90ec43c4f44c56bf735136738b5e15fa070f7"), looks := false }, kinds := [], alts := [], laidByText := true, laidKinds := [.data, .pinned], laidTests := true, laidLooks := .later }
def HeldAllCardSaid : Prop := Claim7.holds Tryd.pinned (.plain (OpenSpec.ofChange heldAllSpec)) heldAllCard

/-- THE TIED CARD OF 'grapevinelaw18.HeldDrops'. -/
def heldDropsCard : Claim7 := { stood := { row := heldDropsRow, standIns := [], harness := (true, "627992ec03c3756a2daec3be3bd90ec43c4f44c56bf735136738b5e15fa070f7"), looks := false }, kinds := [], alts := [], laidByText := true, laidKinds := [.data, .pinned], laidTests := true, laidLooks := .later }
def HeldDropsCardSaid : Prop := Claim7.holds Tryd.pinned (.plain (OpenSpec.ofChange heldDropsSpec)) heldDropsCard

/-- THE SECOND FORM's CARD OF 'grapevinelaw18.HeldScript'. -/
def heldScriptUptoCard : Claim7 := { stood := { row := heldScriptUptoRow, standIns := [], harness := (true, "627992ec03c3756a2daec3be3bd90ec43c4f44c56bf735136738b5e15fa070f7"), looks := false }, kinds := [], alts := [], laidByText := true, laidKinds := [.data, .pinned], laidTests := true, laidLooks := .later }
def HeldScriptUptoCardSaid : Prop := Claim7.holds Tryd.pinned (.plain (OpenSpec.upto heldScriptSpec)) heldScriptUptoCard

/-- THE SECOND FORM's CARD OF 'grapevinelaw18.HeldAll'. -/
def heldAllUptoCard : Claim7 := { stood := { row := heldAllUptoRow, standIns := [], harness := (true, "627992ec03c3756a2daec3be3bd90ec43c4f44c56bf735136738b5e15fa070f7"), looks := false }, kinds := [], alts := [], laidByText := true, laidKinds := [.data, .pinned], laidTests := true, laidLooks := .later }
def HeldAllUptoCardSaid : Prop := Claim7.holds Tryd.pinned (.plain (OpenSpec.upto heldAllSpec)) heldAllUptoCard

/-- THE SECOND FORM's CARD OF 'grapevinelaw18.HeldDrops'. -/
def heldDropsUptoCard : Claim7 := { stood := { row := heldDropsUptoRow, standIns := [], harness := (true, "627992ec03c3756a2daec3be3bd90ec43c4f44c56bf735136738b5e15fa070f7"), looks := false }, kinds := [], alts := [], laidByText := true, laidKinds := [.data, .pinned], laidTests := true, laidLooks := .later }
def HeldDropsUptoCardSaid : Prop := Claim7.holds Tryd.pinned (.plain (OpenSpec.upto heldDropsSpec)) heldDropsUptoCard
end Rows
end Go.Proofs.YthikmfpfbfjbiaaDoor
