/-
  NARROWER THAN 'FOR EVERY INPUT', by the rows' own cells (each row's printed sentence says how): DescentFinds: laid · DescentSteps: laid · DescentTurns: laid · DescentOne: laid · DescentAdds: laid.
  DERIVED. THE GIVEN ROWS OF THIS SEAT. 5 by the template 'for every input the law returns true; each argument reads behind the call as it read before'; 0 by the template 'total and deterministic' (their statements: YthlnjkfahmebjaaDoorTotals.lean).
  GIVEN WITH THE SEED: the statements are not yours to turn. If you find one false, say at which input.
  Laid BY PROGRAM, IN A SANDBOX (cutbox-rows.mjs): the forced cells as the released guide's own fill.sh prints them over the translation d32dc566003e626a… (all of the seat's roots in one cut). By AI agents, Wed Nov 11 2026. No macro, syntax, notation, axiom, sorry.
-/
import Derived.Test.YthlnjkfahmebjaaDoorChecked
import GoSem.PinnedTables
import GoSem.Claim
import GoSem.ClaimJoined
import GoSem.ClaimMapViews
import Derived.JoinedTies
import Derived.KernelRfl
namespace Go.Proofs.YthlnjkfahmebjaaDoor
/- THE CELL 'sum', in the pinned program and in every row, IS THE sha256 OF THE DUMP (.gsa) THAT YthlnjkfahmebjaaDoorProg.lean LOADS. Nothing in Lean hashes anything: it is a label: what it is worth is what the hold of that sum in a sandbox is worth. -/
noncomputable def Tryd.pinned : Pinned := { name := "ythlnjkfahmebjaadoor", sum := "d32dc566003e626ac696ded971dd433abe652094c2ddc175dda43d19dffa1cc7", checked := Tryd.checked }
namespace Rows
def none {H : Type} : Left H := { results := [], args := [] }

/- WHAT THE LISTED PACKAGE-LEVEL VARIABLES READ AS WHEN THE CALL BEGINS. Each datum BY PROGRAM (the guide's laid-datum.mjs) off the statement by which the dump's own 'gosem.cut.vars' lays the variable. In a bare row this is a premise. The card (YthlnjkfahmebjaaDoorCards.lean) ties it to the program's text. -/
def laid_unicode_utf8_acceptRanges {H : Type} : DataW H := .agg [.agg [.lit (.int .u8 128), .lit (.int .u8 191)], .agg [.lit (.int .u8 160), .lit (.int .u8 191)], .agg [.lit (.int .u8 128), .lit (.int .u8 159)], .agg [.lit (.int .u8 144), .lit (.int .u8 191)], .agg [.lit (.int .u8 128), .lit (.int .u8 143)], .agg [.lit (.int .u8 0), .lit (.int .u8 0)], .agg [.lit (.int .u8 0), .lit (.int .u8 0)], .agg [.lit (.int .u8 0), .lit (.int .u8 0)], .agg [.lit (.int .u8 0), .lit (.int .u8 0)], .agg [.lit (.int .u8 0), .lit (.int .u8 0)], .agg [.lit (.int .u8 0), .lit (.int .u8 0)], .agg [.lit (.int .u8 0), .lit (.int .u8 0)], .agg [.lit (.int .u8 0), .lit (.int .u8 0)], .agg [.lit (.int .u8 0), .lit (.int .u8 0)], .agg [.lit (.int .u8 0), .lit (.int .u8 0)], .agg [.lit (.int .u8 0), .lit (.int .u8 0)]]
/-- One of Go's own tables, pinned by name: the form's constant. -/
def laid_unicode_utf8_first : DataW Unit := Go.Pinned.utf8First

/-- 'grapevinelaw13.DescentFinds': WHATEVER THE INPUT: true; the input reads as it did. -/
def descentFindsSpec : ChangeSpec := { name := "descentFinds", fn := fun _ => fun
  | [d1, d2, d3] => { results := [.lit (.bool true)], args := [d1, d2, d3] }
  | _ => none }
def descentFindsRow : OpenClaim := { program := "ythlnjkfahmebjaadoor", sum := "d32dc566003e626ac696ded971dd433abe652094c2ddc175dda43d19dffa1cc7", func := "grapevine/grapevinelaw13.DescentFinds", spec := "descentFinds", unfollowed := true, recurses := true, named := ["unicode/utf8.first", "unicode/utf8.acceptRanges"], plainKeys := false, apart := false, laid := [("unicode/utf8.acceptRanges", laid_unicode_utf8_acceptRanges), ("unicode/utf8.first", laid_unicode_utf8_first)] }
def DescentFindsSaid : Prop := descentFindsRow.holds Tryd.pinned (OpenSpec.ofChange descentFindsSpec)

/-- ITS FALSE NEIGHBOUR: 'it returns false'. Refute it at one input. -/
def descentFindsWrong : ChangeSpec := { name := "descentFinds", fn := fun _ => fun
  | [d1, d2, d3] => { results := [.lit (.bool false)], args := [d1, d2, d3] }
  | _ => none }
def DescentFindsWrongFalsely : Prop := descentFindsRow.holds Tryd.pinned (OpenSpec.ofChange descentFindsWrong)

/-- 'grapevinelaw13.DescentSteps': WHATEVER THE INPUT: true; the input reads as it did. -/
def descentStepsSpec : ChangeSpec := { name := "descentSteps", fn := fun _ => fun
  | [d1, d2, d3] => { results := [.lit (.bool true)], args := [d1, d2, d3] }
  | _ => none }
def descentStepsRow : OpenClaim := { program := "ythlnjkfahmebjaadoor", sum := "d32dc566003e626ac696ded971dd433abe652094c2ddc175dda43d19dffa1cc7", func := "grapevine/grapevinelaw13.DescentSteps", spec := "descentSteps", unfollowed := true, recurses := true, named := ["unicode/utf8.first", "unicode/utf8.acceptRanges"], plainKeys := false, apart := false, laid := [("unicode/utf8.acceptRanges", laid_unicode_utf8_acceptRanges), ("unicode/utf8.first", laid_unicode_utf8_first)] }
def DescentStepsSaid : Prop := descentStepsRow.holds Tryd.pinned (OpenSpec.ofChange descentStepsSpec)

/-- ITS FALSE NEIGHBOUR: 'it returns false'. Refute it at one input. -/
def descentStepsWrong : ChangeSpec := { name := "descentSteps", fn := fun _ => fun
  | [d1, d2, d3] => { results := [.lit (.bool false)], args := [d1, d2, d3] }
  | _ => none }
def DescentStepsWrongFalsely : Prop := descentStepsRow.holds Tryd.pinned (OpenSpec.ofChange descentStepsWrong)

/-- 'grapevinelaw13.DescentTurns': WHATEVER THE INPUT: true; the input reads as it did. -/
def descentTurnsSpec : ChangeSpec := { name := "descentTurns", fn := fun _ => fun
  | [d1, d2, d3] => { results := [.lit (.bool true)], args := [d1, d2, d3] }
  | _ => none }
def descentTurnsRow : OpenClaim := { program := "ythlnjkfahmebjaadoor", sum := "d32dc566003e626ac696ded971dd433abe652094c2ddc175dda43d19dffa1cc7", func := "grapevine/grapevinelaw13.DescentTurns", spec := "descentTurns", unfollowed := true, recurses := true, named := ["unicode/utf8.first", "unicode/utf8.acceptRanges"], plainKeys := false, apart := false, laid := [("unicode/utf8.acceptRanges", laid_unicode_utf8_acceptRanges), ("unicode/utf8.first", laid_unicode_utf8_first)] }
def DescentTurnsSaid : Prop := descentTurnsRow.holds Tryd.pinned (OpenSpec.ofChange descentTurnsSpec)

/-- ITS FALSE NEIGHBOUR: 'it returns false'. Refute it at one input. -/
def descentTurnsWrong : ChangeSpec := { name := "descentTurns", fn := fun _ => fun
  | [d1, d2, d3] => { results := [.lit (.bool false)], args := [d1, d2, d3] }
  | _ => none }
def DescentTurnsWrongFalsely : Prop := descentTurnsRow.holds Tryd.pinned (OpenSpec.ofChange descentTurnsWrong)

/-- 'grapevinelaw13.DescentOne': WHATEVER THE INPUT: true; the input reads as it did. -/
def descentOneSpec : ChangeSpec := { name := "descentOne", fn := fun _ => fun
  | [d1, d2, d3] => { results := [.lit (.bool true)], args := [d1, d2, d3] }
  | _ => none }
def descentOneRow : OpenClaim := { program := "ythlnjkfahmebjaadoor", sum := "d32dc566003e626ac696ded971dd433abe652094c2ddc175dda43d19dffa1cc7", func := "grapevine/grapevinelaw13.DescentOne", spec := "descentOne", unfollowed := true, recurses := true, named := ["unicode/utf8.first", "unicode/utf8.acceptRanges"], plainKeys := false, apart := false, laid := [("unicode/utf8.acceptRanges", laid_unicode_utf8_acceptRanges), ("unicode/utf8.first", laid_unicode_utf8_first)] }
def DescentOneSaid : Prop := descentOneRow.holds Tryd.pinned (OpenSpec.ofChange descentOneSpec)

/-- ITS FALSE NEIGHBOUR: 'it returns false'. Refute it at one input. -/
def descentOneWrong : ChangeSpec := { name := "descentOne", fn := fun _ => fun
  | [d1, d2, d3] => { results := [.lit (.bool false)], args := [d1, d2, d3] }
  | _ => none }
def DescentOneWrongFalsely : Prop := descentOneRow.holds Tryd.pinned (OpenSpec.ofChange descentOneWrong)

/-- 'grapevinelaw13.DescentAdds': WHATEVER THE INPUT: true; the input reads as it did. -/
def descentAddsSpec : ChangeSpec := { name := "descentAdds", fn := fun _ => fun
  | [d1, d2] => { results := [.lit (.bool true)], args := [d1, d2] }
  | _ => none }
def descentAddsRow : OpenClaim := { program := "ythlnjkfahmebjaadoor", sum := "d32dc566003e626ac696ded971dd433abe652094c2ddc175dda43d19dffa1cc7", func := "grapevine/grapevinelaw13.DescentAdds", spec := "descentAdds", unfollowed := true, recurses := true, named := ["unicode/utf8.first", "unicode/utf8.acceptRanges"], plainKeys := false, apart := false, laid := [("unicode/utf8.acceptRanges", laid_unicode_utf8_acceptRanges), ("unicode/utf8.first", laid_unicode_utf8_first)] }
def DescentAddsSaid : Prop := descentAddsRow.holds Tryd.pinned (OpenSpec.ofChange descentAddsSpec)

/-- ITS FALSE NEIGHBOUR: 'it returns false'. Refute it at one input. -/
def descentAddsWrong : ChangeSpec := { name := "descentAdds", fn := fun _ => fun
  | [d1, d2] => { results := [.lit (.bool false)], args := [d1, d2] }
  | _ => none }
def DescentAddsWrongFalsely : Prop := descentAddsRow.holds Tryd.pinned (OpenSpec.ofChange descentAddsWrong)

/- THE SECOND FORM. 'bulk': how many values and letters a reading holds, each counted each time it is reached (what is shared counts as often as it is met; a slice's spare places count too). A statement '..UptoSaid' is the law's where the arguments, and the package variables that the reading takes, are together of bulk at most 1048576: NARROWER than '..Said'. Prove '..Said' where nothing that the law and all that it calls make is longer than what came in: it says more and counts as full. Else prove '..UptoSaid'. A law counts once. -/
mutual
def uptoBulk {H : Type} : DataW H → Nat
  | .lit (.string bytes) => bytes.length + 1
  | .lit _ => 1
  | .nil => 1
  | .ptr d => uptoBulk d + 1
  | .slice elems spare => uptoBulkAll elems + uptoBulkAll spare + 1
  | .agg parts => uptoBulkAll parts + 1
  | .iface _ d => uptoBulk d + 1
  | .map entries => uptoBulkEntries entries + 1
  | .held _ => 1
def uptoBulkAll {H : Type} : List (DataW H) → Nat
  | [] => 0
  | d :: r => uptoBulk d + uptoBulkAll r
def uptoBulkEntries {H : Type} : List (Lit × DataW H) → Nat
  | [] => 0
  | x :: r => uptoBulkEntry x + uptoBulkEntries r
def uptoBulkEntry {H : Type} : Lit × DataW H → Nat
  | (.string bytes, d) => bytes.length + uptoBulk d + 1
  | (_, d) => uptoBulk d + 1
 end
def uptoSmall : (H : Type) → List (DataW H) → Bool := fun _ ds => decide (uptoBulkAll ds ≤ 1048576)
def OpenSpec.upto (s : _root_.Go.ChangeSpec) : _root_.Go.OpenSpec := { _root_.Go.OpenSpec.ofChange s with cond := some uptoSmall }

/-- 'grapevinelaw13.DescentFinds', WHERE WHAT IT READS IS OF BULK AT MOST 1048576: true; the input reads as it did. -/
def descentFindsUptoRow : OpenClaim := { program := "ythlnjkfahmebjaadoor", sum := "d32dc566003e626ac696ded971dd433abe652094c2ddc175dda43d19dffa1cc7", func := "grapevine/grapevinelaw13.DescentFinds", spec := "descentFinds", unfollowed := true, recurses := true, named := ["unicode/utf8.first", "unicode/utf8.acceptRanges"], plainKeys := false, apart := false, laid := [("unicode/utf8.acceptRanges", laid_unicode_utf8_acceptRanges), ("unicode/utf8.first", laid_unicode_utf8_first)], narrowed := true }
def DescentFindsUptoSaid : Prop := descentFindsUptoRow.holds Tryd.pinned (OpenSpec.upto descentFindsSpec)

/-- 'grapevinelaw13.DescentSteps', WHERE WHAT IT READS IS OF BULK AT MOST 1048576: true; the input reads as it did. -/
def descentStepsUptoRow : OpenClaim := { program := "ythlnjkfahmebjaadoor", sum := "d32dc566003e626ac696ded971dd433abe652094c2ddc175dda43d19dffa1cc7", func := "grapevine/grapevinelaw13.DescentSteps", spec := "descentSteps", unfollowed := true, recurses := true, named := ["unicode/utf8.first", "unicode/utf8.acceptRanges"], plainKeys := false, apart := false, laid := [("unicode/utf8.acceptRanges", laid_unicode_utf8_acceptRanges), ("unicode/utf8.first", laid_unicode_utf8_first)], narrowed := true }
def DescentStepsUptoSaid : Prop := descentStepsUptoRow.holds Tryd.pinned (OpenSpec.upto descentStepsSpec)

/-- 'grapevinelaw13.DescentTurns', WHERE WHAT IT READS IS OF BULK AT MOST 1048576: true; the input reads as it did. -/
def descentTurnsUptoRow : OpenClaim := { program := "ythlnjkfahmebjaadoor", sum := "d32dc566003e626ac696ded971dd433abe652094c2ddc175dda43d19dffa1cc7", func := "grapevine/grapevinelaw13.DescentTurns", spec := "descentTurns", unfollowed := true, recurses := true, named := ["unicode/utf8.first", "unicode/utf8.acceptRanges"], plainKeys := false, apart := false, laid := [("unicode/utf8.acceptRanges", laid_unicode_utf8_acceptRanges), ("unicode/utf8.first", laid_unicode_utf8_first)], narrowed := true }
def DescentTurnsUptoSaid : Prop := descentTurnsUptoRow.holds Tryd.pinned (OpenSpec.upto descentTurnsSpec)

/-- 'grapevinelaw13.DescentOne', WHERE WHAT IT READS IS OF BULK AT MOST 1048576: true; the input reads as it did. -/
def descentOneUptoRow : OpenClaim := { program := "ythlnjkfahmebjaadoor", sum := "d32dc566003e626ac696ded971dd433abe652094c2ddc175dda43d19dffa1cc7", func := "grapevine/grapevinelaw13.DescentOne", spec := "descentOne", unfollowed := true, recurses := true, named := ["unicode/utf8.first", "unicode/utf8.acceptRanges"], plainKeys := false, apart := false, laid := [("unicode/utf8.acceptRanges", laid_unicode_utf8_acceptRanges), ("unicode/utf8.first", laid_unicode_utf8_first)], narrowed := true }
def DescentOneUptoSaid : Prop := descentOneUptoRow.holds Tryd.pinned (OpenSpec.upto descentOneSpec)

/-- 'grapevinelaw13.DescentAdds', WHERE WHAT IT READS IS OF BULK AT MOST 1048576: true; the input reads as it did. -/
def descentAddsUptoRow : OpenClaim := { program := "ythlnjkfahmebjaadoor", sum := "d32dc566003e626ac696ded971dd433abe652094c2ddc175dda43d19dffa1cc7", func := "grapevine/grapevinelaw13.DescentAdds", spec := "descentAdds", unfollowed := true, recurses := true, named := ["unicode/utf8.first", "unicode/utf8.acceptRanges"], plainKeys := false, apart := false, laid := [("unicode/utf8.acceptRanges", laid_unicode_utf8_acceptRanges), ("unicode/utf8.first", laid_unicode_utf8_first)], narrowed := true }
def DescentAddsUptoSaid : Prop := descentAddsUptoRow.holds Tryd.pinned (OpenSpec.upto descentAddsSpec)

end Rows
end Go.Proofs.YthlnjkfahmebjaaDoor
