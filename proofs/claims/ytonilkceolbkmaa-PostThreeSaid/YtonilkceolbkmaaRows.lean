/-
  No cell of these rows narrows 'for every input' (looked for: loops, veiled, ifaces, maps, wideKeys, modest, calm, conditions, laid).
  DERIVED. THE GIVEN ROWS OF THIS SEAT. 5 by the template 'for every input the law returns true; each argument reads behind the call as it read before'; 0 by the template 'total and deterministic' (their statements: YtonilkceolbkmaaTotals.lean).
  GIVEN WITH THE SEED: the statements are not yours to turn. If you find one false, say at which input.
  Laid BY PROGRAM, IN A SANDBOX (cutbox-rows.mjs): the forced cells as the released guide's own fill.sh prints them over the translation 755cbdad92c1f0ef… (all of the seat's roots in one cut). By AI agents, Wed Nov 11 2026. No macro, syntax, notation, axiom, sorry.
-/
import Derived.Test.YtonilkceolbkmaaChecked
import GoSem.Claim
import GoSem.ClaimJoined
import GoSem.ClaimMapViews
import Derived.JoinedTies
import Derived.KernelRfl
namespace Go.Proofs.Ytonilkceolbkmaa
/- THE CELL 'sum', in the pinned program and in every row, IS THE sha256 OF THE DUMP (.gsa) THAT YtonilkceolbkmaaProg.lean LOADS. Nothing in Lean hashes anything: it is a label: what it is worth is what the hold of that sum in a sandbox is worth. -/
noncomputable def Try.pinned : Pinned := { name := "ytonilkceolbkmaa", sum := "755cbdad92c1f0ef14358f2d7b77ac9cbcfc3522d09ffd398e69994b680142f3", checked := Try.checked }
namespace Rows
def none {H : Type} : Left H := { results := [], args := [] }

/-- 'grapevinelaw10.PostTells': WHATEVER THE INPUT: true; the input reads as it did. -/
def postTellsSpec : ChangeSpec := { name := "postTells", fn := fun _ => fun
  | [d] => { results := [.lit (.bool true)], args := [d] }
  | _ => none }
def postTellsRow : OpenClaim := { program := "ytonilkceolbkmaa", sum := "755cbdad92c1f0ef14358f2d7b77ac9cbcfc3522d09ffd398e69994b680142f3", func := "grapevine/grapevinelaw10.PostTells", spec := "postTells", inPlace := ["slices.overlaps[grapevine/api.Post]"], unfollowed := true, recurses := true, apart := false }
def PostTellsSaid : Prop := postTellsRow.holds Try.pinned (OpenSpec.ofChange postTellsSpec)

/-- ITS FALSE NEIGHBOUR: 'it returns false'. Refute it at one input. -/
def postTellsWrong : ChangeSpec := { name := "postTells", fn := fun _ => fun
  | [d] => { results := [.lit (.bool false)], args := [d] }
  | _ => none }
def PostTellsWrongFalsely : Prop := postTellsRow.holds Try.pinned (OpenSpec.ofChange postTellsWrong)

/-- 'grapevinelaw10.PostChanges': WHATEVER THE INPUT: true; the input reads as it did. -/
def postChangesSpec : ChangeSpec := { name := "postChanges", fn := fun _ => fun
  | [d1, d2, d3, d4, d5] => { results := [.lit (.bool true)], args := [d1, d2, d3, d4, d5] }
  | _ => none }
def postChangesRow : OpenClaim := { program := "ytonilkceolbkmaa", sum := "755cbdad92c1f0ef14358f2d7b77ac9cbcfc3522d09ffd398e69994b680142f3", func := "grapevine/grapevinelaw10.PostChanges", spec := "postChanges", inPlace := ["slices.overlaps[grapevine/api.Post]"], unfollowed := true, recurses := true, apart := false }
def PostChangesSaid : Prop := postChangesRow.holds Try.pinned (OpenSpec.ofChange postChangesSpec)

/-- ITS FALSE NEIGHBOUR: 'it returns false'. Refute it at one input. -/
def postChangesWrong : ChangeSpec := { name := "postChanges", fn := fun _ => fun
  | [d1, d2, d3, d4, d5] => { results := [.lit (.bool false)], args := [d1, d2, d3, d4, d5] }
  | _ => none }
def PostChangesWrongFalsely : Prop := postChangesRow.holds Try.pinned (OpenSpec.ofChange postChangesWrong)

/-- 'grapevinelaw10.PostSets': WHATEVER THE INPUT: true; the input reads as it did. -/
def postSetsSpec : ChangeSpec := { name := "postSets", fn := fun _ => fun
  | [d1, d2] => { results := [.lit (.bool true)], args := [d1, d2] }
  | _ => none }
def postSetsRow : OpenClaim := { program := "ytonilkceolbkmaa", sum := "755cbdad92c1f0ef14358f2d7b77ac9cbcfc3522d09ffd398e69994b680142f3", func := "grapevine/grapevinelaw10.PostSets", spec := "postSets", inPlace := ["slices.overlaps[grapevine/api.Post]"], unfollowed := true, recurses := true, apart := false }
def PostSetsSaid : Prop := postSetsRow.holds Try.pinned (OpenSpec.ofChange postSetsSpec)

/-- ITS FALSE NEIGHBOUR: 'it returns false'. Refute it at one input. -/
def postSetsWrong : ChangeSpec := { name := "postSets", fn := fun _ => fun
  | [d1, d2] => { results := [.lit (.bool false)], args := [d1, d2] }
  | _ => none }
def PostSetsWrongFalsely : Prop := postSetsRow.holds Try.pinned (OpenSpec.ofChange postSetsWrong)

/-- 'grapevinelaw10.PostBack': WHATEVER THE INPUT: true; the input reads as it did. -/
def postBackSpec : ChangeSpec := { name := "postBack", fn := fun _ => fun
  | [d1, d2] => { results := [.lit (.bool true)], args := [d1, d2] }
  | _ => none }
def postBackRow : OpenClaim := { program := "ytonilkceolbkmaa", sum := "755cbdad92c1f0ef14358f2d7b77ac9cbcfc3522d09ffd398e69994b680142f3", func := "grapevine/grapevinelaw10.PostBack", spec := "postBack", inPlace := ["slices.overlaps[grapevine/api.Post]"], unfollowed := true, recurses := true, apart := false }
def PostBackSaid : Prop := postBackRow.holds Try.pinned (OpenSpec.ofChange postBackSpec)

/-- ITS FALSE NEIGHBOUR: 'it returns false'. Refute it at one input. -/
def postBackWrong : ChangeSpec := { name := "postBack", fn := fun _ => fun
  | [d1, d2] => { results := [.lit (.bool false)], args := [d1, d2] }
  | _ => none }
def PostBackWrongFalsely : Prop := postBackRow.holds Try.pinned (OpenSpec.ofChange postBackWrong)

/-- 'grapevinelaw10.PostThree': WHATEVER THE INPUT: true; the input reads as it did. -/
def postThreeSpec : ChangeSpec := { name := "postThree", fn := fun _ => fun
  | [d1, d2, d3] => { results := [.lit (.bool true)], args := [d1, d2, d3] }
  | _ => none }
def postThreeRow : OpenClaim := { program := "ytonilkceolbkmaa", sum := "755cbdad92c1f0ef14358f2d7b77ac9cbcfc3522d09ffd398e69994b680142f3", func := "grapevine/grapevinelaw10.PostThree", spec := "postThree", inPlace := ["slices.overlaps[grapevine/api.Post]"], unfollowed := true, recurses := true, apart := false }
def PostThreeSaid : Prop := postThreeRow.holds Try.pinned (OpenSpec.ofChange postThreeSpec)

/-- ITS FALSE NEIGHBOUR: 'it returns false'. Refute it at one input. -/
def postThreeWrong : ChangeSpec := { name := "postThree", fn := fun _ => fun
  | [d1, d2, d3] => { results := [.lit (.bool false)], args := [d1, d2, d3] }
  | _ => none }
def PostThreeWrongFalsely : Prop := postThreeRow.holds Try.pinned (OpenSpec.ofChange postThreeWrong)

/- THE SECOND FORM. 'bulk': how many values and letters a reading holds, each counted each time it is reached (what is shared counts as often as it is met; a slice's spare places count too). A statement '..UptoSaid' is the law's where the arguments, and the package variables that the reading takes, are together of bulk at most 1048576: NARROWER than '..Said'. Prove '..Said' where nothing that the law and all that it calls make is longer than what came in: it says more and counts as full. Else prove '..UptoSaid'. A law counts once. -/
mutual
def uptoBulk {H : Type} : DataW H → Nat
  | .lit (.string bytes) => bytes.length + 1
  | .lit _ => 1
  | .nil => 1
  | .ptr d => uptoBulk d + 1
  | .slice elems spare => uptoBulkAll elems + uptoBulkAll spare + 1
  | .agg parts => uptoBulkAll parts + 1
  | .iface _ d => uptoBulk d + 1
  | .map entries => uptoBulkEntries entries + 1
  | .held _ => 1
def uptoBulkAll {H : Type} : List (DataW H) → Nat
  | [] => 0
  | d :: r => uptoBulk d + uptoBulkAll r
def uptoBulkEntries {H : Type} : List (Lit × DataW H) → Nat
  | [] => 0
  | x :: r => uptoBulkEntry x + uptoBulkEntries r
def uptoBulkEntry {H : Type} : Lit × DataW H → Nat
  | (.string bytes, d) => bytes.length + uptoBulk d + 1
  | (_, d) => uptoBulk d + 1
 end
def uptoSmall : (H : Type) → List (DataW H) → Bool := fun _ ds => decide (uptoBulkAll ds ≤ 1048576)
def OpenSpec.upto (s : _root_.Go.ChangeSpec) : _root_.Go.OpenSpec := { _root_.Go.OpenSpec.ofChange s with cond := some uptoSmall }

/-- 'grapevinelaw10.PostTells', WHERE WHAT IT READS IS OF BULK AT MOST 1048576: true; the input reads as it did. -/
def postTellsUptoRow : OpenClaim := { program := "ytonilkceolbkmaa", sum := "755cbdad92c1f0ef14358f2d7b77ac9cbcfc3522d09ffd398e69994b680142f3", func := "grapevine/grapevinelaw10.PostTells", spec := "postTells", inPlace := ["slices.overlaps[grapevine/api.Post]"], unfollowed := true, recurses := true, apart := false, narrowed := true }
def PostTellsUptoSaid : Prop := postTellsUptoRow.holds Try.pinned (OpenSpec.upto postTellsSpec)

/-- 'grapevinelaw10.PostChanges', WHERE WHAT IT READS IS OF BULK AT MOST 1048576: true; the input reads as it did. -/
def postChangesUptoRow : OpenClaim := { program := "ytonilkceolbkmaa", sum := "755cbdad92c1f0ef14358f2d7b77ac9cbcfc3522d09ffd398e69994b680142f3", func := "grapevine/grapevinelaw10.PostChanges", spec := "postChanges", inPlace := ["slices.overlaps[grapevine/api.Post]"], unfollowed := true, recurses := true, apart := false, narrowed := true }
def PostChangesUptoSaid : Prop := postChangesUptoRow.holds Try.pinned (OpenSpec.upto postChangesSpec)

/-- 'grapevinelaw10.PostSets', WHERE WHAT IT READS IS OF BULK AT MOST 1048576: true; the input reads as it did. -/
def postSetsUptoRow : OpenClaim := { program := "ytonilkceolbkmaa", sum := "755cbdad92c1f0ef14358f2d7b77ac9cbcfc3522d09ffd398e69994b680142f3", func := "grapevine/grapevinelaw10.PostSets", spec := "postSets", inPlace := ["slices.overlaps[grapevine/api.Post]"], unfollowed := true, recurses := true, apart := false, narrowed := true }
def PostSetsUptoSaid : Prop := postSetsUptoRow.holds Try.pinned (OpenSpec.upto postSetsSpec)

/-- 'grapevinelaw10.PostBack', WHERE WHAT IT READS IS OF BULK AT MOST 1048576: true; the input reads as it did. -/
def postBackUptoRow : OpenClaim := { program := "ytonilkceolbkmaa", sum := "755cbdad92c1f0ef14358f2d7b77ac9cbcfc3522d09ffd398e69994b680142f3", func := "grapevine/grapevinelaw10.PostBack", spec := "postBack", inPlace := ["slices.overlaps[grapevine/api.Post]"], unfollowed := true, recurses := true, apart := false, narrowed := true }
def PostBackUptoSaid : Prop := postBackUptoRow.holds Try.pinned (OpenSpec.upto postBackSpec)

/-- 'grapevinelaw10.PostThree', WHERE WHAT IT READS IS OF BULK AT MOST 1048576: true; the input reads as it did. -/
def postThreeUptoRow : OpenClaim := { program := "ytonilkceolbkmaa", sum := "755cbdad92c1f0ef14358f2d7b77ac9cbcfc3522d09ffd398e69994b680142f3", func := "grapevine/grapevinelaw10.PostThree", spec := "postThree", inPlace := ["slices.overlaps[grapevine/api.Post]"], unfollowed := true, recurses := true, apart := false, narrowed := true }
def PostThreeUptoSaid : Prop := postThreeUptoRow.holds Try.pinned (OpenSpec.upto postThreeSpec)

end Rows
end Go.Proofs.Ytonilkceolbkmaa
