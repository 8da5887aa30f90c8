/-
  No cell of these rows narrows 'for every input' (looked for: loops, veiled, ifaces, maps, wideKeys, modest, calm, conditions, laid).
  DERIVED. THE GIVEN ROWS OF THIS SEAT. 5 by the template 'for every input the law returns true; each argument reads behind the call as it read before'; 0 by the template 'total and deterministic' (their statements: YtmfgemhjepagjaaTotals.lean).
  GIVEN WITH THE SEED: the statements are not yours to turn. If you find one false, say at which input.
  Laid BY PROGRAM, IN A SANDBOX (cutbox-rows.mjs): the forced cells as the released guide's own fill.sh prints them over the translation d1a1a9473566a10b… (all of the seat's roots in one cut). By AI agents, Wed Nov 11 2026. No macro, syntax, notation, axiom, sorry.
-/
import Derived.Test.YtmfgemhjepagjaaChecked
import GoSem.Claim
import GoSem.ClaimJoined
import GoSem.ClaimMapViews
import Derived.JoinedTies
import Derived.KernelRfl
namespace Go.Proofs.Ytmfgemhjepagjaa
/- THE CELL 'sum', in the pinned program and in every row, IS THE sha256 OF THE DUMP (.gsa) THAT YtmfgemhjepagjaaProg.lean LOADS. Nothing in Lean hashes anything: it is a label: what it is worth is what the hold of that sum in a sandbox is worth. -/
noncomputable def Try.pinned : Pinned := { name := "ytmfgemhjepagjaa", sum := "d1a1a9473566a10b630ffb145fe31af682f129104bc776a5be4eb5b96ea70a55", checked := Try.checked }
namespace Rows
def none {H : Type} : Left H := { results := [], args := [] }

/-- 'grapevinelaw7.DriveStays': WHATEVER THE INPUT: true; the input reads as it did. -/
def driveStaysSpec : ChangeSpec := { name := "driveStays", fn := fun _ => fun
  | [d1, d2, d3] => { results := [.lit (.bool true)], args := [d1, d2, d3] }
  | _ => none }
def driveStaysRow : OpenClaim := { program := "ytmfgemhjepagjaa", sum := "d1a1a9473566a10b630ffb145fe31af682f129104bc776a5be4eb5b96ea70a55", func := "grapevine/grapevinelaw7.DriveStays", spec := "driveStays", inPlace := ["internal/bytealg.IndexByteString", "internal/bytealg.IndexString"], unfollowed := true, recurses := true, named := ["internal/bytealg.MaxLen"], apart := false }
def DriveStaysSaid : Prop := driveStaysRow.holds Try.pinned (OpenSpec.ofChange driveStaysSpec)

/-- ITS FALSE NEIGHBOUR: 'it returns false'. Refute it at one input. -/
def driveStaysWrong : ChangeSpec := { name := "driveStays", fn := fun _ => fun
  | [d1, d2, d3] => { results := [.lit (.bool false)], args := [d1, d2, d3] }
  | _ => none }
def DriveStaysWrongFalsely : Prop := driveStaysRow.holds Try.pinned (OpenSpec.ofChange driveStaysWrong)

/-- 'grapevinelaw7.DriveCrashes': WHATEVER THE INPUT: true; the input reads as it did. -/
def driveCrashesSpec : ChangeSpec := { name := "driveCrashes", fn := fun _ => fun
  | [d1, d2, d3] => { results := [.lit (.bool true)], args := [d1, d2, d3] }
  | _ => none }
def driveCrashesRow : OpenClaim := { program := "ytmfgemhjepagjaa", sum := "d1a1a9473566a10b630ffb145fe31af682f129104bc776a5be4eb5b96ea70a55", func := "grapevine/grapevinelaw7.DriveCrashes", spec := "driveCrashes", inPlace := ["internal/bytealg.IndexByteString", "internal/bytealg.IndexString"], unfollowed := true, recurses := true, named := ["internal/bytealg.MaxLen"], apart := false }
def DriveCrashesSaid : Prop := driveCrashesRow.holds Try.pinned (OpenSpec.ofChange driveCrashesSpec)

/-- ITS FALSE NEIGHBOUR: 'it returns false'. Refute it at one input. -/
def driveCrashesWrong : ChangeSpec := { name := "driveCrashes", fn := fun _ => fun
  | [d1, d2, d3] => { results := [.lit (.bool false)], args := [d1, d2, d3] }
  | _ => none }
def DriveCrashesWrongFalsely : Prop := driveCrashesRow.holds Try.pinned (OpenSpec.ofChange driveCrashesWrong)

/-- 'grapevinelaw7.DriveMoves': WHATEVER THE INPUT: true; the input reads as it did. -/
def driveMovesSpec : ChangeSpec := { name := "driveMoves", fn := fun _ => fun
  | [d1, d2, d3, d4] => { results := [.lit (.bool true)], args := [d1, d2, d3, d4] }
  | _ => none }
def driveMovesRow : OpenClaim := { program := "ytmfgemhjepagjaa", sum := "d1a1a9473566a10b630ffb145fe31af682f129104bc776a5be4eb5b96ea70a55", func := "grapevine/grapevinelaw7.DriveMoves", spec := "driveMoves", inPlace := ["internal/bytealg.IndexByteString", "internal/bytealg.IndexString"], unfollowed := true, recurses := true, named := ["internal/bytealg.MaxLen"], apart := false }
def DriveMovesSaid : Prop := driveMovesRow.holds Try.pinned (OpenSpec.ofChange driveMovesSpec)

/-- ITS FALSE NEIGHBOUR: 'it returns false'. Refute it at one input. -/
def driveMovesWrong : ChangeSpec := { name := "driveMoves", fn := fun _ => fun
  | [d1, d2, d3, d4] => { results := [.lit (.bool false)], args := [d1, d2, d3, d4] }
  | _ => none }
def DriveMovesWrongFalsely : Prop := driveMovesRow.holds Try.pinned (OpenSpec.ofChange driveMovesWrong)

/-- 'grapevinelaw7.DriveRooms': WHATEVER THE INPUT: true; the input reads as it did. -/
def driveRoomsSpec : ChangeSpec := { name := "driveRooms", fn := fun _ => fun
  | [d1, d2, d3] => { results := [.lit (.bool true)], args := [d1, d2, d3] }
  | _ => none }
def driveRoomsRow : OpenClaim := { program := "ytmfgemhjepagjaa", sum := "d1a1a9473566a10b630ffb145fe31af682f129104bc776a5be4eb5b96ea70a55", func := "grapevine/grapevinelaw7.DriveRooms", spec := "driveRooms", inPlace := ["internal/bytealg.IndexByteString", "internal/bytealg.IndexString"], unfollowed := true, recurses := true, named := ["internal/bytealg.MaxLen"], apart := false }
def DriveRoomsSaid : Prop := driveRoomsRow.holds Try.pinned (OpenSpec.ofChange driveRoomsSpec)

/-- ITS FALSE NEIGHBOUR: 'it returns false'. Refute it at one input. -/
def driveRoomsWrong : ChangeSpec := { name := "driveRooms", fn := fun _ => fun
  | [d1, d2, d3] => { results := [.lit (.bool false)], args := [d1, d2, d3] }
  | _ => none }
def DriveRoomsWrongFalsely : Prop := driveRoomsRow.holds Try.pinned (OpenSpec.ofChange driveRoomsWrong)

/-- 'grapevinelaw7.DriveNone': WHATEVER THE INPUT: true; the input reads as it did. -/
def driveNoneSpec : ChangeSpec := { name := "driveNone", fn := fun _ => fun
  | [d] => { results := [.lit (.bool true)], args := [d] }
  | _ => none }
def driveNoneRow : OpenClaim := { program := "ytmfgemhjepagjaa", sum := "d1a1a9473566a10b630ffb145fe31af682f129104bc776a5be4eb5b96ea70a55", func := "grapevine/grapevinelaw7.DriveNone", spec := "driveNone", inPlace := ["internal/bytealg.IndexByteString", "internal/bytealg.IndexString"], unfollowed := true, recurses := true, named := ["internal/bytealg.MaxLen"], apart := false }
def DriveNoneSaid : Prop := driveNoneRow.holds Try.pinned (OpenSpec.ofChange driveNoneSpec)

/-- ITS FALSE NEIGHBOUR: 'it returns false'. Refute it at one input. -/
def driveNoneWrong : ChangeSpec := { name := "driveNone", fn := fun _ => fun
  | [d] => { results := [.lit (.bool false)], args := [d] }
  | _ => none }
def DriveNoneWrongFalsely : Prop := driveNoneRow.holds Try.pinned (OpenSpec.ofChange driveNoneWrong)

/- THE SECOND FORM. 'bulk': how many values and letters a reading holds, each counted each time it is reached (what is shared counts as often as it is met; a slice's spare places count too). A statement '..UptoSaid' is the law's where the arguments, and the package variables that the reading takes, are together of bulk at most 1048576: NARROWER than '..Said'. Prove '..Said' where nothing that the law and all that it calls make is longer than what came in: it says more and counts as full. Else prove '..UptoSaid'. A law counts once. -/
mutual
def uptoBulk {H : Type} : DataW H → Nat
  | .lit (.string bytes) => bytes.length + 1
  | .lit _ => 1
  | .nil => 1
  | .ptr d => uptoBulk d + 1
  | .slice elems spare => uptoBulkAll elems + uptoBulkAll spare + 1
  | .agg parts => uptoBulkAll parts + 1
  | .iface _ d => uptoBulk d + 1
  | .map entries => uptoBulkEntries entries + 1
  | .held _ => 1
def uptoBulkAll {H : Type} : List (DataW H) → Nat
  | [] => 0
  | d :: r => uptoBulk d + uptoBulkAll r
def uptoBulkEntries {H : Type} : List (Lit × DataW H) → Nat
  | [] => 0
  | x :: r => uptoBulkEntry x + uptoBulkEntries r
def uptoBulkEntry {H : Type} : Lit × DataW H → Nat
  | (.string bytes, d) => bytes.length + uptoBulk d + 1
  | (_, d) => uptoBulk d + 1
 end
def uptoSmall : (H : Type) → List (DataW H) → Bool := fun _ ds => decide (uptoBulkAll ds ≤ 1048576)
def OpenSpec.upto (s : _root_.Go.ChangeSpec) : _root_.Go.OpenSpec := { _root_.Go.OpenSpec.ofChange s with cond := some uptoSmall }

/-- 'grapevinelaw7.DriveStays', WHERE WHAT IT READS IS OF BULK AT MOST 1048576: true; the input reads as it did. -/
def driveStaysUptoRow : OpenClaim := { program := "ytmfgemhjepagjaa", sum := "d1a1a9473566a10b630ffb145fe31af682f129104bc776a5be4eb5b96ea70a55", func := "grapevine/grapevinelaw7.DriveStays", spec := "driveStays", inPlace := ["internal/bytealg.IndexByteString", "internal/bytealg.IndexString"], unfollowed := true, recurses := true, named := ["internal/bytealg.MaxLen"], apart := false, narrowed := true }
def DriveStaysUptoSaid : Prop := driveStaysUptoRow.holds Try.pinned (OpenSpec.upto driveStaysSpec)

/-- 'grapevinelaw7.DriveCrashes', WHERE WHAT IT READS IS OF BULK AT MOST 1048576: true; the input reads as it did. -/
def driveCrashesUptoRow : OpenClaim := { program := "ytmfgemhjepagjaa", sum := "d1a1a9473566a10b630ffb145fe31af682f129104bc776a5be4eb5b96ea70a55", func := "grapevine/grapevinelaw7.DriveCrashes", spec := "driveCrashes", inPlace := ["internal/bytealg.IndexByteString", "internal/bytealg.IndexString"], unfollowed := true, recurses := true, named := ["internal/bytealg.MaxLen"], apart := false, narrowed := true }
def DriveCrashesUptoSaid : Prop := driveCrashesUptoRow.holds Try.pinned (OpenSpec.upto driveCrashesSpec)

/-- 'grapevinelaw7.DriveMoves', WHERE WHAT IT READS IS OF BULK AT MOST 1048576: true; the input reads as it did. -/
def driveMovesUptoRow : OpenClaim := { program := "ytmfgemhjepagjaa", sum := "d1a1a9473566a10b630ffb145fe31af682f129104bc776a5be4eb5b96ea70a55", func := "grapevine/grapevinelaw7.DriveMoves", spec := "driveMoves", inPlace := ["internal/bytealg.IndexByteString", "internal/bytealg.IndexString"], unfollowed := true, recurses := true, named := ["internal/bytealg.MaxLen"], apart := false, narrowed := true }
def DriveMovesUptoSaid : Prop := driveMovesUptoRow.holds Try.pinned (OpenSpec.upto driveMovesSpec)

/-- 'grapevinelaw7.DriveRooms', WHERE WHAT IT READS IS OF BULK AT MOST 1048576: true; the input reads as it did. -/
def driveRoomsUptoRow : OpenClaim := { program := "ytmfgemhjepagjaa", sum := "d1a1a9473566a10b630ffb145fe31af682f129104bc776a5be4eb5b96ea70a55", func := "grapevine/grapevinelaw7.DriveRooms", spec := "driveRooms", inPlace := ["internal/bytealg.IndexByteString", "internal/bytealg.IndexString"], unfollowed := true, recurses := true, named := ["internal/bytealg.MaxLen"], apart := false, narrowed := true }
def DriveRoomsUptoSaid : Prop := driveRoomsUptoRow.holds Try.pinned (OpenSpec.upto driveRoomsSpec)

/-- 'grapevinelaw7.DriveNone', WHERE WHAT IT READS IS OF BULK AT MOST 1048576: true; the input reads as it did. -/
def driveNoneUptoRow : OpenClaim := { program := "ytmfgemhjepagjaa", sum := "d1a1a9473566a10b630ffb145fe31af682f129104bc776a5be4eb5b96ea70a55", func := "grapevine/grapevinelaw7.DriveNone", spec := "driveNone", inPlace := ["internal/bytealg.IndexByteString", "internal/bytealg.IndexString"], unfollowed := true, recurses := true, named := ["internal/bytealg.MaxLen"], apart := false, narrowed := true }
def DriveNoneUptoSaid : Prop := driveNoneUptoRow.holds Try.pinned (OpenSpec.upto driveNoneSpec)

end Rows
end Go.Proofs.Ytmfgemhjepagjaa
