/-
  DERIVED. GIVEN WITH THE SEED: THE CARDS: each row of YtjaafkakeccniaaGreatDoorRows.lean that lists a variable, with what it lists TIED to the program's text (the seventh form; the later family's looks); each row that meets fmt, with fmt's text TOLD by the authors' own Lean function (tested against real Go, not proved from fmt's source: count such statements apart). THE CARD IS WHAT COUNTS. Prove the row's statement (the work); the ties are given (YtjaafkakeccniaaGreatDoorTie.lean); close each card by the builder's one call (the guide's Derived/Test/ToyasCard.lean, 'card_holds'). Laid BY PROGRAM, IN A SANDBOX (cutbox-door.mjs). By AI agents, Wed Nov 11 2026. No macro, syntax, notation, axiom, sorry.
-/
import Derived.Test.YtjaafkakeccniaaGreatDoorRows
import GoSem.ClaimSeven
namespace Go.Proofs.YtjaafkakeccniaaGreatDoor
namespace Rows

/-- THE TIED CARD OF 'grapevinelaw9.LedgerKeeps'. -/
def ledgerKeepsCard : Claim7 := { stood := { row := ledgerKeepsRow, standIns := [], harness := (true, "4ce94dc518acb9521d3c1a6492273737eb432abcc7c1a6dc39a517cc2782836c"), looks := true }, kinds := [], alts := [], laidByText := true, laidKinds := [.data, .data, .data, .data, .sentinel, .sentinel, .pinned], laidTests := true, laidLooks := .later }
def LedgerKeepsCardSaid : Prop := Claim7.holds Tryz.pinned (.plain (OpenSpec.ofChange ledgerKeepsSpec)) ledgerKeepsCard

/-- THE TIED CARD OF 'grapevinelaw9.LedgerFull'. -/
def ledgerFullCard : Claim7 := { stood := { row := ledgerFullRow, standIns := [], harness := (true, "4ce94dc518acb9521d3c1a6492273737eb432abcc7c1a6dc39a517cc2782836c"), looks := true }, kinds := [], alts := [], laidByText := true, laidKinds := [.data, .data, .data, .data, .sentinel, .sentinel, .pinned], laidTests := true, laidLooks := .later }
def LedgerFullCardSaid : Prop := Claim7.holds Tryz.pinned (.plain (OpenSpec.ofChange ledgerFullSpec)) ledgerFullCard

/-- THE TIED CARD OF 'grapevinelaw9.LedgerSyncs'. -/
def ledgerSyncsCard : Claim7 := { stood := { row := ledgerSyncsRow, standIns := [], harness := (true, "4ce94dc518acb9521d3c1a6492273737eb432abcc7c1a6dc39a517cc2782836c"), looks := true }, kinds := [], alts := [], laidByText := true, laidKinds := [.data, .data, .data, .data, .sentinel, .sentinel, .pinned], laidTests := true, laidLooks := .later }
def LedgerSyncsCardSaid : Prop := Claim7.holds Tryz.pinned (.plain (OpenSpec.ofChange ledgerSyncsSpec)) ledgerSyncsCard

/-- THE TIED CARD OF 'grapevinelaw9.LedgerCrash'. -/
def ledgerCrashCard : Claim7 := { stood := { row := ledgerCrashRow, standIns := [], harness := (true, "4ce94dc518acb9521d3c1a6492273737eb432abcc7c1a6dc39a517cc2782836c"), looks := true }, kinds := [], alts := [], laidByText := true, laidKinds := [.data, .data, .data, .data, .sentinel, .sentinel, .pinned], laidTests := true, laidLooks := .later }
def LedgerCrashCardSaid : Prop := Claim7.holds Tryz.pinned (.plain (OpenSpec.ofChange ledgerCrashSpec)) ledgerCrashCard

/-- THE TIED CARD OF 'grapevinelaw9.LedgerLoose'. -/
def ledgerLooseCard : Claim7 := { stood := { row := ledgerLooseRow, standIns := [], harness := (true, "4ce94dc518acb9521d3c1a6492273737eb432abcc7c1a6dc39a517cc2782836c"), looks := true }, kinds := [], alts := [], laidByText := true, laidKinds := [.data, .data, .data, .data, .sentinel, .sentinel, .pinned], laidTests := true, laidLooks := .later }
def LedgerLooseCardSaid : Prop := Claim7.holds Tryz.pinned (.plain (OpenSpec.ofChange ledgerLooseSpec)) ledgerLooseCard

/-- THE TIED CARD OF 'grapevinelaw9.LedgerTrims'. -/
def ledgerTrimsCard : Claim7 := { stood := { row := ledgerTrimsRow, standIns := [], harness := (true, "4ce94dc518acb9521d3c1a6492273737eb432abcc7c1a6dc39a517cc2782836c"), looks := true }, kinds := [], alts := [], laidByText := true, laidKinds := [.data, .data, .data, .data, .sentinel, .sentinel, .pinned], laidTests := true, laidLooks := .later }
def LedgerTrimsCardSaid : Prop := Claim7.holds Tryz.pinned (.plain (OpenSpec.ofChange ledgerTrimsSpec)) ledgerTrimsCard

/-- THE SECOND FORM's CARD OF 'grapevinelaw9.LedgerKeeps'. -/
def ledgerKeepsUptoCard : Claim7 := { stood := { row := ledgerKeepsUptoRow, standIns := [], harness := (true, "4ce94dc518acb9521d3c1a6492273737eb432abcc7c1a6dc39a517cc2782836c"), looks := true }, kinds := [], alts := [], laidByText := true, laidKinds := [.data, .data, .data, .data, .sentinel, .sentinel, .pinned], laidTests := true, laidLooks := .later }
def LedgerKeepsUptoCardSaid : Prop := Claim7.holds Tryz.pinned (.plain (OpenSpec.upto ledgerKeepsSpec)) ledgerKeepsUptoCard

/-- THE SECOND FORM's CARD OF 'grapevinelaw9.LedgerFull'. -/
def ledgerFullUptoCard : Claim7 := { stood := { row := ledgerFullUptoRow, standIns := [], harness := (true, "4ce94dc518acb9521d3c1a6492273737eb432abcc7c1a6dc39a517cc2782836c"), looks := true }, kinds := [], alts := [], laidByText := true, laidKinds := [.data, .data, .data, .data, .sentinel, .sentinel, .pinned], laidTests := true, laidLooks := .later }
def LedgerFullUptoCardSaid : Prop := Claim7.holds Tryz.pinned (.plain (OpenSpec.upto ledgerFullSpec)) ledgerFullUptoCard

/-- THE SECOND FORM's CARD OF 'grapevinelaw9.LedgerSyncs'. -/
def ledgerSyncsUptoCard : Claim7 := { stood := { row := ledgerSyncsUptoRow, standIns := [], harness := (true, "4ce94dc518acb9521d3c1a6492273737eb432abcc7c1a6dc39a517cc2782836c"), looks := true }, kinds := [], alts := [], laidByText := true, laidKinds := [.data, .data, .data, .data, .sentinel, .sentinel, .pinned], laidTests := true, laidLooks := .later }
def LedgerSyncsUptoCardSaid : Prop := Claim7.holds Tryz.pinned (.plain (OpenSpec.upto ledgerSyncsSpec)) ledgerSyncsUptoCard

/-- THE SECOND FORM's CARD OF 'grapevinelaw9.LedgerCrash'. -/
def ledgerCrashUptoCard : Claim7 := { stood := { row := ledgerCrashUptoRow, standIns := [], harness := (true, "4ce94dc518acb9521d3c1a6492273737eb432abcc7c1a6dc39a517cc2782836c"), looks := true }, kinds := [], alts := [], laidByText := true, laidKinds := [.data, .data, .data, .data, .sentinel, .sentinel, .pinned], laidTests := true, laidLooks := .later }
def LedgerCrashUptoCardSaid : Prop := Claim7.holds Tryz.pinned (.plain (OpenSpec.upto ledgerCrashSpec)) ledgerCrashUptoCard

/-- THE SECOND FORM's CARD OF 'grapevinelaw9.LedgerLoose'. -/
def ledgerLooseUptoCard : Claim7 := { stood := { row := ledgerLooseUptoRow, standIns := [], harness := (true, "4ce94dc518acb9521d3c1a6492273737eb432abcc7c1a6dc39a517cc2782836c"), looks := true }, kinds := [], alts := [], laidByText := true, laidKinds := [.data, .data, .data, .data, .sentinel, .sentinel, .pinned], laidTests := true, laidLooks := .later }
def LedgerLooseUptoCardSaid : Prop := Claim7.holds Tryz.pinned (.plain (OpenSpec.upto ledgerLooseSpec)) ledgerLooseUptoCard

/-- THE SECOND FORM's CARD OF 'grapevinelaw9.LedgerTrims'. -/
def ledgerTrimsUptoCard : Claim7 := { stood := { row := ledgerTrimsUptoRow, standIns := [], harness := (true, "4ce94dc518acb9521d3c1a6492273737eb432abcc7c1a6dc39a517cc2782836c"), looks := true }, kinds := [], alts := [], laidByText := true, laidKinds := [.data, .data, .data, .data, .sentinel, .sentinel, .pinned], laidTests := true, laidLooks := .later }
def LedgerTrimsUptoCardSaid : Prop := Claim7.holds Tryz.pinned (.plain (OpenSpec.upto ledgerTrimsSpec)) ledgerTrimsUptoCard
end Rows
end Go.Proofs.YtjaafkakeccniaaGreatDoor
