/-
  DERIVED. GIVEN WITH THE SEED: THE CARDS: each row of YthlnjkfahmebjaaDoorRows.lean that lists a variable, with what it lists TIED to the program's text (the seventh form; the later family's looks); each row that meets fmt, with fmt's text TOLD by the authors' own Lean function (tested against real Go, not proved from fmt's source: count such statements apart). THE CARD IS WHAT COUNTS. Prove the row's statement (the work); the ties are given (YthlnjkfahmebjaaDoorTie.lean); close each card by the builder's one call (the guide's Derived/Test/ToyasCard.lean, 'card_holds'). Laid BY PROGRAM, IN A SANDBOX (cutbox-door.mjs). By AI agents, Wed Nov 11 2026. No macro, syntax, notation, axiom, sorry.
-/
import Derived.Test.YthlnjkfahmebjaaDoorRows
import GoSem.ClaimSeven
namespace Go.Proofs.YthlnjkfahmebjaaDoor
namespace Rows

/-- THE TIED CARD OF 'grapevinelaw13.DescentFinds'. -/
def descentFindsCard : Claim7 := { stood := { row := descentFindsRow, standIns := [], harness := (true, "aec135235451cd48cebf1a030ff418a847e097ce4421e4baff6400fc437f1fdf"), looks := false }, kinds := [], alts := [], laidByText := true, laidKinds := [.data, .pinned], laidTests := true, laidLooks := .later }
def DescentFindsCardSaid : Prop := Claim7.holds Tryd.pinned (.plain (OpenSpec.ofChange descentFindsSpec)) descentFindsCard

/-- THE TIED CARD OF 'grapevinelaw13.DescentSteps'. -/
def descentStepsCard : Claim7 := { stood := { row := descentStepsRow, standIns := [], harness := (true, "aec135235451cd48cebf1a030ff418a847e097ce4421e4baff6400fc437f1fdf"), looks := false }, kinds := [], alts := [], laidByText := true, laidKinds := [.data, .pinned], laidTests := true, laidLooks := .later }
def DescentStepsCardSaid : Prop := Claim7.holds Tryd.pinned (.plain (OpenSpec.ofChange descentStepsSpec)) descentStepsCard

/-- THE TIED CARD OF 'grapevinelaw13.DescentTurns'. -/
def descentTurnsCard : Claim7 := { stood := { row := descentTurnsRow, standIns := [], harness := (true, "aec135235451cd48cebf1a030ff418a847e097ce4421e4baff6400fc437f1fdf"), looks := false }, kinds := [], alts := [], laidByText := true, laidKinds := [.data, .pinned], laidTests := true, laidLooks := .later }
def DescentTurnsCardSaid : Prop := Claim7.holds Tryd.pinned (.plain (OpenSpec.ofChange descentTurnsSpec)) descentTurnsCard

/-- THE TIED CARD OF 'grapevinelaw13.DescentOne'. -/
def descentOneCard : Claim7 := { stood := { row := descentOneRow, standIns := [], harness := (true, "aec135235451cd48cebf1a030ff418a847e097ce4421e4baff6400fc437f1fdf"), looks := false }, kinds := [], alts := [], laidByText := true, laidKinds := [.data, .pinned], laidTests := true, laidLooks := .later }
def DescentOneCardSaid : Prop := Claim7.holds Tryd.pinned (.plain (OpenSpec.ofChange descentOneSpec)) descentOneCard

/-- THE TIED CARD OF 'grapevinelaw13.DescentAdds'. -/
def descentAddsCard : Claim7 := { stood := { row := descentAddsRow, standIns := [], harness := (true, "aec135235451cd48cebf1a030ff418a847e097ce4421e4baff6400fc437f1fdf"), looks := false }, kinds := [], alts := [], laidByText := true, laidKinds := [.data, .pinned], laidTests := true, laidLooks := .later }
def DescentAddsCardSaid : Prop := Claim7.holds Tryd.pinned (.plain (OpenSpec.ofChange descentAddsSpec)) descentAddsCard

/-- THE SECOND FORM's CARD OF 'grapevinelaw13.DescentFinds'. -/
def descentFindsUptoCard : Claim7 := { stood := { row := descentFindsUptoRow, standIns := [], harness := (true, "aec135235451cd48cebf1a030ff418a847e097ce4421e4baff6400fc437f1fdf"), looks := false }, kinds := [], alts := [], laidByText := true, laidKinds := [.data, .pinned], laidTests := true, laidLooks := .later }
def DescentFindsUptoCardSaid : Prop := Claim7.holds Tryd.pinned (.plain (OpenSpec.upto descentFindsSpec)) descentFindsUptoCard

/-- THE SECOND FORM's CARD OF 'grapevinelaw13.DescentSteps'. -/
def descentStepsUptoCard : Claim7 := { stood := { row := descentStepsUptoRow, standIns := [], harness := (true, "aec135235451cd48cebf1a030ff418a847e097ce4421e4baff6400fc437f1fdf"), looks := false }, kinds := [], alts := [], laidByText := true, laidKinds := [.data, .pinned], laidTests := true, laidLooks := .later }
def DescentStepsUptoCardSaid : Prop := Claim7.holds Tryd.pinned (.plain (OpenSpec.upto descentStepsSpec)) descentStepsUptoCard

/-- THE SECOND FORM's CARD OF 'grapevinelaw13.DescentTurns'. -/
def descentTurnsUptoCard : Claim7 := { stood := { row := descentTurnsUptoRow, standIns := [], harness := (true, "aec135235451cd48cebf1a030ff418a847e097ce4421e4baff6400fc437f1fdf"), looks := false }, kinds := [], alts := [], laidByText := true, laidKinds := [.data, .pinned], laidTests := true, laidLooks := .later }
def DescentTurnsUptoCardSaid : Prop := Claim7.holds Tryd.pinned (.plain (OpenSpec.upto descentTurnsSpec)) descentTurnsUptoCard

/-- THE SECOND FORM's CARD OF 'grapevinelaw13.DescentOne'. -/
def descentOneUptoCard : Claim7 := { stood := { row := descentOneUptoRow, standIns := [], harness := (true, "aec135235451cd48cebf1a030ff418a847e097ce4421e4baff6400fc437f1fdf"), looks := false }, kinds := [], alts := [], laidByText := true, laidKinds := [.data, .pinned], laidTests := true, laidLooks := .later }
def DescentOneUptoCardSaid : Prop := Claim7.holds Tryd.pinned (.plain (OpenSpec.upto descentOneSpec)) descentOneUptoCard

/-- THE SECOND FORM's CARD OF 'grapevinelaw13.DescentAdds'. -/
def descentAddsUptoCard : Claim7 := { stood := { row := descentAddsUptoRow, standIns := [], harness := (true, "aec135235451cd48cebf1a030ff418a847e097ce4421e4baff6400fc437f1fdf"), looks := false }, kinds := [], alts := [], laidByText := true, laidKinds := [.data, .pinned], laidTests := true, laidLooks := .later }
def DescentAddsUptoCardSaid : Prop := Claim7.holds Tryd.pinned (.plain (OpenSpec.upto descentAddsSpec)) descentAddsUptoCard
end Rows
end Go.Proofs.YthlnjkfahmebjaaDoor
