/-
  DERIVED. GIVEN WITH THE SEED: THE CARDS: each row of YtklgiidfompdpaaGreatDoorRows.lean that lists a variable, with what it lists TIED to the program's text (the seventh form; the later family's looks); each row that meets fmt, with fmt's text TOLD by the authors' own Lean function (tested against real Go, not proved from fmt's source: count such statements apart). THE CARD IS WHAT COUNTS. Prove the row's statement (the work); the ties are given (YtklgiidfompdpaaGreatDoorTie.lean); close each card by the builder's one call (the guide's Derived/Test/ToyasCard.lean, 'card_holds'). Laid BY PROGRAM, IN A SANDBOX (cutbox-door.mjs). By AI agents, Wed Nov 11 2026. No macro, syntax, notation, axiom, sorry.
-/
import Derived.Test.YtklgiidfompdpaaGreatDoorRows
import GoSem.ClaimSeven
namespace Go.Proofs.YtklgiidfompdpaaGreatDoor
namespace Rows

/-- THE TIED CARD OF 'grapevinelaw17.FindScript'. -/
def findScriptCard : Claim7 := { stood := { row := findScriptRow, standIns := [], harness := (true, "334af3fc6fce9de3527167a370e638fa555e77d03a908331c0a99362f25b057e"), looks := false }, kinds := [], alts := [], laidByText := true, laidKinds := [.data, .data, .data, .data, .data, .pinned, .pinned, .pinned, .pinned], laidTests := true, laidLooks := .later }
def FindScriptCardSaid : Prop := Claim7.holds Tryz.pinned (.plain (OpenSpec.ofChange findScriptSpec)) findScriptCard

/-- THE TIED CARD OF 'grapevinelaw17.FindAlgebra'. -/
def findAlgebraCard : Claim7 := { stood := { row := findAlgebraRow, standIns := [], harness := (true, "334af3fc6fce9de3527167a370e638fa555e77d03a908331c0a99362f25b057e"), looks := false }, kinds := [], alts := [], laidByText := true, laidKinds := [.data, .data, .data, .data, .data, .pinned, .pinned, .pinned, .pinned], laidTests := true, laidLooks := .later }
def FindAlgebraCardSaid : Prop := Claim7.holds Tryz.pinned (.plain (OpenSpec.ofChange findAlgebraSpec)) findAlgebraCard

/-- THE TIED CARD OF 'grapevinelaw17.FindNone'. -/
def findNoneCard : Claim7 := { stood := { row := findNoneRow, standIns := [], harness := (true, "334af3fc6fce9de3527167a370e638fa555e77d03a908331c0a99362f25b057e"), looks := false }, kinds := [], alts := [], laidByText := true, laidKinds := [.data, .data, .data, .data, .data, .pinned, .pinned, .pinned, .pinned], laidTests := true, laidLooks := .later }
def FindNoneCardSaid : Prop := Claim7.holds Tryz.pinned (.plain (OpenSpec.ofChange findNoneSpec)) findNoneCard

/-- THE TIED CARD OF 'grapevinelaw17.FindDrops'. -/
def findDropsCard : Claim7 := { stood := { row := findDropsRow, standIns := [], harness := (true, "334af3fc6fce9de3527167a370e638fa555e77d03a908331c0a99362f25b057e"), looks := false }, kinds := [], alts := [], laidByText := true, laidKinds := [.data, .data, .data, .data, .data, .pinned, .pinned, .pinned, .pinned], laidTests := true, laidLooks := .later }
def FindDropsCardSaid : Prop := Claim7.holds Tryz.pinned (.plain (OpenSpec.ofChange findDropsSpec)) findDropsCard

/-- THE SECOND FORM's CARD OF 'grapevinelaw17.FindScript'. -/
def findScriptUptoCard : Claim7 := { stood := { row := findScriptUptoRow, standIns := [], harness := (true, "334af3fc6fce9de3527167a370e638fa555e77d03a908331c0a99362f25b057e"), looks := false }, kinds := [], alts := [], laidByText := true, laidKinds := [.data, .data, .data, .data, .data, .pinned, .pinned, .pinned, .pinned], laidTests := true, laidLooks := .later }
def FindScriptUptoCardSaid : Prop := Claim7.holds Tryz.pinned (.plain (OpenSpec.upto findScriptSpec)) findScriptUptoCard

/-- THE SECOND FORM's CARD OF 'grapevinelaw17.FindAlgebra'. -/
def findAlgebraUptoCard : Claim7 := { stood := { row := findAlgebraUptoRow, standIns := [], harness := (true, "334af3fc6fce9de3527167a370e638fa555e77d03a908331c0a99362f25b057e"), looks := false }, kinds := [], alts := [], laidByText := true, laidKinds := [.data, .data, .data, .data, .data, .pinned, .pinned, .pinned, .pinned], laidTests := true, laidLooks := .later }
def FindAlgebraUptoCardSaid : Prop := Claim7.holds Tryz.pinned (.plain (OpenSpec.upto findAlgebraSpec)) findAlgebraUptoCard

/-- THE SECOND FORM's CARD OF 'grapevinelaw17.FindNone'. -/
def findNoneUptoCard : Claim7 := { stood := { row := findNoneUptoRow, standIns := [], harness := (true, "334af3fc6fce9de3527167a370e638fa555e77d03a908331c0a99362f25b057e"), looks := false }, kinds := [], alts := [], laidByText := true, laidKinds := [.data, .data, .data, .data, .data, .pinned, .pinned, .pinned, .pinned], laidTests := true, laidLooks := .later }
def FindNoneUptoCardSaid : Prop := Claim7.holds Tryz.pinned (.plain (OpenSpec.upto findNoneSpec)) findNoneUptoCard

/-- THE SECOND FORM's CARD OF 'grapevinelaw17.FindDrops'. -/
def findDropsUptoCard : Claim7 := { stood := { row := findDropsUptoRow, standIns := [], harness := (true, "334af3fc6fce9de3527167a370e638fa555e77d03a908331c0a99362f25b057e"), looks := false }, kinds := [], alts := [], laidByText := true, laidKinds := [.data, .data, .data, .data, .data, .pinned, .pinned, .pinned, .pinned], laidTests := true, laidLooks := .later }
def FindDropsUptoCardSaid : Prop := Claim7.holds Tryz.pinned (.plain (OpenSpec.upto findDropsSpec)) findDropsUptoCard
end Rows
end Go.Proofs.YtklgiidfompdpaaGreatDoor
