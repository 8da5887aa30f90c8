/- What the closings of all this seat's rows share: the world in which the listed variables lie as laid. -/
import Derived.Test.YthlnjkfahmebjaaDoorCards
import Derived.Test.YthlnjkfahmebjaaDoorTie
import Derived.Test.YthlnjkfahmebjaaDoorVal
import Derived.Carry
import Derived.Lib.LaidIn
import Derived.Lib.LaidU8T
import Derived.Deep.DeepHandedRow
import Derived.Deep.DeepWitnessRowRef
import Derived.ProofKit
import Derived.SizedLaws
import Derived.OpenShut
namespace Go.Proofs.YthlnjkfahmebjaaDoor
open Go Go.Sl Go.ChangeShapes Go.WideShapes Go.ChangeAt Go.RowKit Go.Lib Go.Shelf
set_option maxRecDepth 100000

theorem own : ownKnob Tryd.prog.godebug = none := by kernel_rfl
theorem laidOut : laidOutB Tryd.prog = true := by kernel_rfl
abbrev laidL : List (String × DataW Unit) := [("unicode/utf8.acceptRanges", Rows.laid_unicode_utf8_acceptRanges), ("unicode/utf8.first", Rows.laid_unicode_utf8_first)]
noncomputable def laidWorld (os : Os) : World :=
  let w0 := World.holding Tryd.prog os ⟨#[], #[], []⟩
  let put (h : Array Obj) (g : Nat) (cs : Array Value) : Array Obj := h.modify g fun
    | .cells _ t frozen => .cells cs t frozen
    | o => o
  let h1 := put w0.heap 0 (Go.Pinned.utf8FirstZ.map fun (z : Nat) => Value.int .u8 z).toArray
  let h2 := put h1 1 ((List.range 16).flatMap fun i => [Value.int .u8 (Lib.accLo i), Value.int .u8 (Lib.accHi i)]).toArray
  { w0 with heap := h2 }
theorem accept_is : (Rows.laid_unicode_utf8_acceptRanges : DataW Unit) = acceptData := by kernel_rfl
theorem first_is : Rows.laid_unicode_utf8_first = firstData := by kernel_rfl
theorem cell_le {W w : World} (h : Hp.le (whole W) w) {a : Addr} {v : Value} (e : W.cell? a = some v) : w.cell? a = some v := by
  cases hb : W.heap[a.block]? with
  | none => simp [World.cell?, hb] at e
  | some o =>
    have : w.heap[a.block]? = some o := h a.block o (by simp [whole, hb])
    rw [← e]; simp [World.cell?, hb, this]
theorem tabs_of {W : World} (hL : laidMet Tryd.prog laidL W) : Tabs (whole W) := fun w hle => by
  have h1 := Lib.laidMet.reads hL (.head _)
  have h2 := Lib.laidMet.reads hL (.tail _ (.head _))
  rw [accept_is] at h1
  rw [first_is] at h2
  have h : Lib.Utf8Tabs (Tryd.laysValid_ren.g 3) (Tryd.laysValid_ren.g 4) W := utf8Tabs_of_readsT (U8Types.of196 Tryd.laysValid) ⟨by kernel_rfl, by kernel_rfl, by kernel_rfl, by kernel_rfl, by kernel_rfl, by kernel_rfl, by kernel_rfl⟩ h2 h1
  exact ⟨fun c hc => cell_le hle (h.1 c hc), fun i hi => ⟨cell_le hle (h.2 i hi).1, cell_le hle (h.2 i hi).2⟩⟩
/-- What a walk's contract over the whole of a world gives: nothing that was there turns. -/
theorem calls_of {P : Program} {f : FuncId} {args : List Value} {W : World} (c : Ct P f args [ro (whole W)] (fun v hs => v = .bool true ∧ hs = [ro (whole W)])) :
    Calls P f args.toArray W fun e W' => e = .returned (.bool true) ∧ Below W.heap.size W W' :=
  (c.calls W W [] (Sat.start W)).mono fun e W' ⟨v, hs, he, ⟨hv, hhs⟩, hsat⟩ => by
    subst hv; subst hhs
    exact ⟨he, Sat.below hsat⟩
end Go.Proofs.YthlnjkfahmebjaaDoor
