/-
  DERIVED. GIVEN WITH THE SEED: THE CARDS: each row of YtmbikfojljnnkaaGreatDoorRows.lean that lists a variable, with what it lists TIED to the program's text (the seventh form; the later family's looks); each row that meets fmt, with fmt's text TOLD by the authors' own Lean function (tested against real Go, not proved from fmt's source: count such statements apart). THE CARD IS WHAT COUNTS. Prove the row's statement (the work); the ties are given (YtmbikfojljnnkaaGreatDoorTie.lean); close each card by the builder's one call (the guide's Derived/Test/ToyasCard.lean, 'card_holds'). Laid BY PROGRAM, IN A SANDBOX (cutbox-door.mjs). By AI agents, Wed Nov 11 2026. No macro, syntax, notation, axiom, sorry.
-/
import Derived.Test.YtmbikfojljnnkaaGreatDoorRows
import GoSem.ClaimSeven
namespace Go.Proofs.YtmbikfojljnnkaaGreatDoor
namespace Rows

/-- THE TIED CARD OF 'grapevinelaw11.IndexScript'. -/
def indexScriptCard : Claim7 := { stood := { row := indexScriptRow, standIns := [], harness := (true, "a74830162062cb0d49522cf23006dec50439b0b694877b4f97ed2c6f2f2918a2"), looks := false }, kinds := [], alts := [], laidByText := true, laidKinds := [.data, .data, .pinned, .pinned, .pinned, .pinned], laidTests := true, laidLooks := .later }
def IndexScriptCardSaid : Prop := Claim7.holds Tryz.pinned (.plain (OpenSpec.ofChange indexScriptSpec)) indexScriptCard

/-- THE TIED CARD OF 'grapevinelaw11.IndexAnew'. -/
def indexAnewCard : Claim7 := { stood := { row := indexAnewRow, standIns := [], harness := (true, "a74830162062cb0d49522cf23006dec50439b0b694877b4f97ed2c6f2f2918a2"), looks := false }, kinds := [], alts := [], laidByText := true, laidKinds := [.data, .data, .pinned, .pinned, .pinned, .pinned], laidTests := true, laidLooks := .later }
def IndexAnewCardSaid : Prop := Claim7.holds Tryz.pinned (.plain (OpenSpec.ofChange indexAnewSpec)) indexAnewCard

/-- THE TIED CARD OF 'grapevinelaw11.IndexWords'. -/
def indexWordsCard : Claim7 := { stood := { row := indexWordsRow, standIns := [], harness := (true, "a74830162062cb0d49522cf23006dec50439b0b694877b4f97ed2c6f2f2918a2"), looks := false }, kinds := [], alts := [], laidByText := true, laidKinds := [.data, .data, .pinned, .pinned, .pinned, .pinned], laidTests := true, laidLooks := .later }
def IndexWordsCardSaid : Prop := Claim7.holds Tryz.pinned (.plain (OpenSpec.ofChange indexWordsSpec)) indexWordsCard

/-- THE TIED CARD OF 'grapevinelaw11.IndexPrefixes'. -/
def indexPrefixesCard : Claim7 := { stood := { row := indexPrefixesRow, standIns := [], harness := (true, "a74830162062cb0d49522cf23006dec50439b0b694877b4f97ed2c6f2f2918a2"), looks := false }, kinds := [], alts := [], laidByText := true, laidKinds := [.data, .data, .pinned, .pinned, .pinned, .pinned], laidTests := true, laidLooks := .later }
def IndexPrefixesCardSaid : Prop := Claim7.holds Tryz.pinned (.plain (OpenSpec.ofChange indexPrefixesSpec)) indexPrefixesCard

/-- THE TIED CARD OF 'grapevinelaw11.IndexCounts'. -/
def indexCountsCard : Claim7 := { stood := { row := indexCountsRow, standIns := [], harness := (true, "a74830162062cb0d49522cf23006dec50439b0b694877b4f97ed2c6f2f2918a2"), looks := false }, kinds := [], alts := [], laidByText := true, laidKinds := [.data, .data, .pinned, .pinned, .pinned, .pinned], laidTests := true, laidLooks := .later }
def IndexCountsCardSaid : Prop := Claim7.holds Tryz.pinned (.plain (OpenSpec.ofChange indexCountsSpec)) indexCountsCard

/-- THE SECOND FORM's CARD OF 'grapevinelaw11.IndexScript'. -/
def indexScriptUptoCard : Claim7 := { stood := { row := indexScriptUptoRow, standIns := [], harness := (true, "a74830162062cb0d49522cf23006dec50439b0b694877b4f97ed2c6f2f2918a2"), looks := false }, kinds := [], alts := [], laidByText := true, laidKinds := [.data, .data, .pinned, .pinned, .pinned, .pinned], laidTests := true, laidLooks := .later }
def IndexScriptUptoCardSaid : Prop := Claim7.holds Tryz.pinned (.plain (OpenSpec.upto indexScriptSpec)) indexScriptUptoCard

/-- THE SECOND FORM's CARD OF 'grapevinelaw11.IndexAnew'. -/
def indexAnewUptoCard : Claim7 := { stood := { row := indexAnewUptoRow, standIns := [], harness := (true, "a74830162062cb0d49522cf23006dec50439b0b694877b4f97ed2c6f2f2918a2"), looks := false }, kinds := [], alts := [], laidByText := true, laidKinds := [.data, .data, .pinned, .pinned, .pinned, .pinned], laidTests := true, laidLooks := .later }
def IndexAnewUptoCardSaid : Prop := Claim7.holds Tryz.pinned (.plain (OpenSpec.upto indexAnewSpec)) indexAnewUptoCard

/-- THE SECOND FORM's CARD OF 'grapevinelaw11.IndexWords'. -/
def indexWordsUptoCard : Claim7 := { stood := { row := indexWordsUptoRow, standIns := [], harness := (true, "a74830162062cb0d49522cf23006dec50439b0b694877b4f97ed2c6f2f2918a2"), looks := false }, kinds := [], alts := [], laidByText := true, laidKinds := [.data, .data, .pinned, .pinned, .pinned, .pinned], laidTests := true, laidLooks := .later }
def IndexWordsUptoCardSaid : Prop := Claim7.holds Tryz.pinned (.plain (OpenSpec.upto indexWordsSpec)) indexWordsUptoCard

/-- THE SECOND FORM's CARD OF 'grapevinelaw11.IndexPrefixes'. -/
def indexPrefixesUptoCard : Claim7 := { stood := { row := indexPrefixesUptoRow, standIns := [], harness := (true, "a74830162062cb0d49522cf23006dec50439b0b694877b4f97ed2c6f2f2918a2"), looks := false }, kinds := [], alts := [], laidByText := true, laidKinds := [.data, .data, .pinned, .pinned, .pinned, .pinned], laidTests := true, laidLooks := .later }
def IndexPrefixesUptoCardSaid : Prop := Claim7.holds Tryz.pinned (.plain (OpenSpec.upto indexPrefixesSpec)) indexPrefixesUptoCard

/-- THE SECOND FORM's CARD OF 'grapevinelaw11.IndexCounts'. -/
def indexCountsUptoCard : Claim7 := { stood := { row := indexCountsUptoRow, standIns := [], harness := (true, "a74830162062cb0d49522cf23006dec50439b0b694877b4f97ed2c6f2f2918a2"), looks := false }, kinds := [], alts := [], laidByText := true, laidKinds := [.data, .data, .pinned, .pinned, .pinned, .pinned], laidTests := true, laidLooks := .later }
def IndexCountsUptoCardSaid : Prop := Claim7.holds Tryz.pinned (.plain (OpenSpec.upto indexCountsSpec)) indexCountsUptoCard
end Rows
end Go.Proofs.YtmbikfojljnnkaaGreatDoor
