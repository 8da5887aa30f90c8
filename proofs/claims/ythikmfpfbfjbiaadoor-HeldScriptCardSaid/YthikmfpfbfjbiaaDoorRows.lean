/-
  NARROWER THAN 'FOR EVERY INPUT', by the rows' own cells (each row's printed sentence says how): HeldScript: laid · HeldAll: laid · HeldDrops: laid.
  DERIVED. THE GIVEN ROWS OF THIS SEAT. 3 by the template 'for every input the law returns true; each argument reads behind the call as it read before'; 0 by the template 'total and deterministic' (their statements: YthikmfpfbfjbiaaDoorTotals.lean).
  GIVEN WITH THE SEED: the statements are not yours to turn. If you find one false, say at which input.
  Laid BY PROGRAM, IN A SANDBOX (cutbox-rows.mjs): the forced cells as the released guide's own fill.sh prints them over the translation 8981191595932155… (all of the seat's roots in one cut). By AI agents, Wed Nov 11 2026. No macro, syntax, notation, axiom, sorry.
-/
import Derived.Test.YthikmfpfbfjbiaaDoorChecked
import GoSem.PinnedTables
import GoSem.Claim
import GoSem.ClaimJoined
import GoSem.ClaimMapViews
import Derived.JoinedTies
import Derived.KernelRfl
namespace Go.Proofs.YthikmfpfbfjbiaaDoor
/- THE CELL 'sum', in the pinned program and in every row, IS THE sha256 OF THE DUMP (.gsa) THAT YthikmfpfbfjbiaaDoorProg.lean LOADS. Nothing in Lean hashes anything: it is a label: what it is worth is what the hold of that sum in a sandbox is worth. -/
noncomputable def Tryd.pinned : Pinned := { name := "ythikmfpfbfjbiaadoor", sum := "8981191595932155fafab0937ac39f4d6c59c38d060c87c551fd560c6c2ad1af", checked := Tryd.checked }
namespace Rows
def none {H : Type} : Left H := { results := [], args := [] }

/- WHAT THE LISTED PACKAGE-LEVEL VARIABLES READ AS WHEN THE CALL BEGINS. Each datum BY PROGRAM (the guide's laid-datum.mjs) off the statement by which the dump's own 'gosem.cut.vars' lays the variable. In a bare row this is a premise. The card (YthikmfpfbfjbiaaDoorCards.lean) ties it to the program's text. -/
def laid_unicode_utf8_acceptRanges {H : Type} : DataW H := .agg [.agg [.lit (.int .u8 128), .lit (.int .u8 191)], .agg [.lit (.int .u8 160), .lit (.int .u8 191)], .agg [.lit (.int .u8 128), .lit (.int .u8 159)], .agg [.lit (.int .u8 144), .lit (.int .u8 191)], .agg [.lit (.int .u8 128), .lit (.int .u8 143)], .agg [.lit (.int .u8 0), .lit (.int .u8 0)], .agg [.lit (.int .u8 0), .lit (.int .u8 0)], .agg [.lit (.int .u8 0), .lit (.int .u8 0)], .agg [.lit (.int .u8 0), .lit (.int .u8 0)], .agg [.lit (.int .u8 0), .lit (.int .u8 0)], .agg [.lit (.int .u8 0), .lit (.int .u8 0)], .agg [.lit (.int .u8 0), .lit (.int .u8 0)], .agg [.lit (.int .u8 0), .lit (.int .u8 0)], .agg [.lit (.int .u8 0), .lit (.int .u8 0)], .agg [.lit (.int .u8 0), .lit (.int .u8 0)], .agg [.lit (.int .u8 0), .lit (.int .u8 0)]]
/-- One of Go's own tables, pinned by name: the form's constant. -/
def laid_unicode_utf8_first : DataW Unit := Go.Pinned.utf8First

/-- 'grapevinelaw18.HeldScript': WHATEVER THE INPUT: true; the input reads as it did. -/
def heldScriptSpec : ChangeSpec := { name := "heldScript", fn := fun _ => fun
  | [d1, d2] => { results := [.lit (.bool true)], args := [d1, d2] }
  | _ => none }
def heldScriptRow : OpenClaim := { program := "ythikmfpfbfjbiaadoor", sum := "8981191595932155fafab0937ac39f4d6c59c38d060c87c551fd560c6c2ad1af", func := "grapevine/grapevinelaw18.HeldScript", spec := "heldScript", unfollowed := true, recurses := true, named := ["unicode/utf8.first", "unicode/utf8.acceptRanges"], plainKeys := false, apart := false, laid := [("unicode/utf8.acceptRanges", laid_unicode_utf8_acceptRanges), ("unicode/utf8.first", laid_unicode_utf8_first)] }
def HeldScriptSaid : Prop := heldScriptRow.holds Tryd.pinned (OpenSpec.ofChange heldScriptSpec)

/-- ITS FALSE NEIGHBOUR: 'it returns false'. Refute it at one input. -/
def heldScriptWrong : ChangeSpec := { name := "heldScript", fn := fun _ => fun
  | [d1, d2] => { results := [.lit (.bool false)], args := [d1, d2] }
  | _ => none }
def HeldScriptWrongFalsely : Prop := heldScriptRow.holds Tryd.pinned (OpenSpec.ofChange heldScriptWrong)

/-- 'grapevinelaw18.HeldAll': WHATEVER THE INPUT: true; the input reads as it did. -/
def heldAllSpec : ChangeSpec := { name := "heldAll", fn := fun _ => fun
  | [d1, d2] => { results := [.lit (.bool true)], args := [d1, d2] }
  | _ => none }
def heldAllRow : OpenClaim := { program := "ythikmfpfbfjbiaadoor", sum := "8981191595932155fafab0937ac39f4d6c59c38d060c87c551fd560c6c2ad1af", func := "grapevine/grapevinelaw18.HeldAll", spec := "heldAll", unfollowed := true, recurses := true, named := ["unicode/utf8.first", "unicode/utf8.acceptRanges"], plainKeys := false, apart := false, laid := [("unicode/utf8.acceptRanges", laid_unicode_utf8_acceptRanges), ("unicode/utf8.first", laid_unicode_utf8_first)] }
def HeldAllSaid : Prop := heldAllRow.holds Tryd.pinned (OpenSpec.ofChange heldAllSpec)

/-- ITS FALSE NEIGHBOUR: 'it returns false'. Refute it at one input. -/
def heldAllWrong : ChangeSpec := { name := "heldAll", fn := fun _ => fun
  | [d1, d2] => { results := [.lit (.bool false)], args := [d1, d2] }
  | _ => none }
def HeldAllWrongFalsely : Prop := heldAllRow.holds Tryd.pinned (OpenSpec.ofChange heldAllWrong)

/-- 'grapevinelaw18.HeldDrops': WHATEVER THE INPUT: true; the input reads as it did. -/
def heldDropsSpec : ChangeSpec := { name := "heldDrops", fn := fun _ => fun
  | [d1, d2] => { results := [.lit (.bool true)], args := [d1, d2] }
  | _ => none }
def heldDropsRow : OpenClaim := { program := "ythikmfpfbfjbiaadoor", sum := "8981191595932155fafab0937ac39f4d6c59c38d060c87c551fd560c6c2ad1af", func := "grapevine/grapevinelaw18.HeldDrops", spec := "heldDrops", unfollowed := true, recurses := true, named := ["unicode/utf8.first", "unicode/utf8.acceptRanges"], plainKeys := false, apart := false, laid := [("unicode/utf8.acceptRanges", laid_unicode_utf8_acceptRanges), ("unicode/utf8.first", laid_unicode_utf8_first)] }
def HeldDropsSaid : Prop := heldDropsRow.holds Tryd.pinned (OpenSpec.ofChange heldDropsSpec)

/-- ITS FALSE NEIGHBOUR: 'it returns false'. Refute it at one input. -/
def heldDropsWrong : ChangeSpec := { name := "heldDrops", fn := fun _ => fun
  | [d1, d2] => { results := [.lit (.bool false)], args := [d1, d2] }
  | _ => none }
def HeldDropsWrongFalsely : Prop := heldDropsRow.holds Tryd.pinned (OpenSpec.ofChange heldDropsWrong)

/- THE SECOND FORM. 'bulk': how many values and letters a reading holds, each counted each time it is reached (what is shared counts as often as it is met; a slice's spare places count too). A statement '..UptoSaid' is the law's where the arguments, and the package variables that the reading takes, are together of bulk at most 1048576: NARROWER than '..Said'. Prove '..Said' where nothing that the law and all that it calls make is longer than what came in: it says more and counts as full. Else prove '..UptoSaid'. A law counts once. -/
mutual
def uptoBulk {H : Type} : DataW H → Nat
  | .lit (.string bytes) => bytes.length + 1
  | .lit _ => 1
  | .nil => 1
  | .ptr d => uptoBulk d + 1
  | .slice elems spare => uptoBulkAll elems + uptoBulkAll spare + 1
  | .agg parts => uptoBulkAll parts + 1
  | .iface _ d => uptoBulk d + 1
  | .map entries => uptoBulkEntries entries + 1
  | .held _ => 1
def uptoBulkAll {H : Type} : List (DataW H) → Nat
  | [] => 0
  | d :: r => uptoBulk d + uptoBulkAll r
def uptoBulkEntries {H : Type} : List (Lit × DataW H) → Nat
  | [] => 0
  | x :: r => uptoBulkEntry x + uptoBulkEntries r
def uptoBulkEntry {H : Type} : Lit × DataW H → Nat
  | (.string bytes, d) => bytes.length + uptoBulk d + 1
  | (_, d) => uptoBulk d + 1
 end
def uptoSmall : (H : Type) → List (DataW H) → Bool := fun _ ds => decide (uptoBulkAll ds ≤ 1048576)
def OpenSpec.upto (s : _root_.Go.ChangeSpec) : _root_.Go.OpenSpec := { _root_.Go.OpenSpec.ofChange s with cond := some uptoSmall }

/-- 'grapevinelaw18.HeldScript', WHERE WHAT IT READS IS OF BULK AT MOST 1048576: true; the input reads as it did. -/
def heldScriptUptoRow : OpenClaim := { program := "ythikmfpfbfjbiaadoor", sum := "8981191595932155fafab0937ac39f4d6c59c38d060c87c551fd560c6c2ad1af", func := "grapevine/grapevinelaw18.HeldScript", spec := "heldScript", unfollowed := true, recurses := true, named := ["unicode/utf8.first", "unicode/utf8.acceptRanges"], plainKeys := false, apart := false, laid := [("unicode/utf8.acceptRanges", laid_unicode_utf8_acceptRanges), ("unicode/utf8.first", laid_unicode_utf8_first)], narrowed := true }
def HeldScriptUptoSaid : Prop := heldScriptUptoRow.holds Tryd.pinned (OpenSpec.upto heldScriptSpec)

/-- 'grapevinelaw18.HeldAll', WHERE WHAT IT READS IS OF BULK AT MOST 1048576: true; the input reads as it did. -/
def heldAllUptoRow : OpenClaim := { program := "ythikmfpfbfjbiaadoor", sum := "8981191595932155fafab0937ac39f4d6c59c38d060c87c551fd560c6c2ad1af", func := "grapevine/grapevinelaw18.HeldAll", spec := "heldAll", unfollowed := true, recurses := true, named := ["unicode/utf8.first", "unicode/utf8.acceptRanges"], plainKeys := false, apart := false, laid := [("unicode/utf8.acceptRanges", laid_unicode_utf8_acceptRanges), ("unicode/utf8.first", laid_unicode_utf8_first)], narrowed := true }
def HeldAllUptoSaid : Prop := heldAllUptoRow.holds Tryd.pinned (OpenSpec.upto heldAllSpec)

/-- 'grapevinelaw18.HeldDrops', WHERE WHAT IT READS IS OF BULK AT MOST 1048576: true; the input reads as it did. -/
def heldDropsUptoRow : OpenClaim := { program := "ythikmfpfbfjbiaadoor", sum := "8981191595932155fafab0937ac39f4d6c59c38d060c87c551fd560c6c2ad1af", func := "grapevine/grapevinelaw18.HeldDrops", spec := "heldDrops", unfollowed := true, recurses := true, named := ["unicode/utf8.first", "unicode/utf8.acceptRanges"], plainKeys := false, apart := false, laid := [("unicode/utf8.acceptRanges", laid_unicode_utf8_acceptRanges), ("unicode/utf8.first", laid_unicode_utf8_first)], narrowed := true }
def HeldDropsUptoSaid : Prop := heldDropsUptoRow.holds Tryd.pinned (OpenSpec.upto heldDropsSpec)

end Rows
end Go.Proofs.YthikmfpfbfjbiaaDoor
