/- What the closings of rows without listed variables share; how bytes, texts, numbers read. -/
import Derived.Test.YtmfgemhjepagjaaRows
import Derived.Test.YtmfgemhjepagjaaOpn
import Derived.Test.YtmfgemhjepagjaaDk
import Derived.Carry
import Derived.Lib.LaidIn
import Derived.Deep.DeepHandedRow
import Derived.Deep.DeepWitnessRowRef
import Derived.ProofKit
import Derived.SizedLaws
import Derived.OpenShut
namespace Go.Proofs.Ytmfgemhjepagjaa
open Go Go.Sl Go.ChangeShapes Go.WideShapes Go.ChangeAt Go.RowKit Go.Gv
set_option maxRecDepth 100000
theorem own : ownKnob Try.prog.godebug = none := by kernel_rfl
theorem laidOut : laidOutB Try.prog = true := by kernel_rfl
noncomputable abbrev laidWorld (os : Os) : World := World.holding Try.prog os ⟨#[], #[], []⟩
theorem laidMet_nil (P : Program) (w : World) : laidMet P [] w := ⟨[], rfl, List.nodup_nil, fun _ _ h => by cases h⟩
/-- What a walk's contract over the whole of a world gives: nothing that was there turns. -/
theorem calls_of {P : Program} {f : FuncId} {args : List Value} {W : World} (c : Ct P f args [ro (whole W)] (fun v hs => v = .bool true ∧ hs = [ro (whole W)])) :
    Calls P f args.toArray W fun e W' => e = .returned (.bool true) ∧ Below W.heap.size W W' :=
  (c.calls W W [] (Sat.start W)).mono fun e W' ⟨v, hs, he, ⟨hv, hhs⟩, hsat⟩ => by
    subst hv; subst hhs
    exact ⟨he, Sat.below hsat⟩
/-- A contract that asks for nothing, with a part of the heap beside it. -/
theorem Ct.beside {P : Program} {f : FuncId} {args : List Value} {A : HProp} {v0 : Value} (c : Ct P f args [] (fun v hs => v = v0 ∧ hs = [])) : Ct P f args [A] (fun v hs => v = v0 ∧ hs = [A]) :=
  ⟨c.enters, fun w0 w R s => (c.calls w0 w (A :: R) s).mono fun e w' ⟨v, hs, he, ⟨hv, hhs⟩, hsat⟩ => ⟨v, [A], he, ⟨hv, rfl⟩, by subst hhs; exact hsat⟩⟩
theorem Opn.mapG {P : Program} {W : World} {t : TypeId} {α β : Type} {enc : α → List Value} {good : α → Prop} {enc' : β → List Value} {good' : β → Prop} (f : α → β) (h : Opn P W t enc good) (he : ∀ a, good a → enc a = enc' (f a)) (hg : ∀ a, good a → good' (f a)) : Opn P W t enc' good' := fun H e fuel cs x hx => by
  obtain ⟨a, h1, h2⟩ := h H e fuel cs x hx; exact ⟨f a, by rw [h1, he a h2], hg a h2⟩
theorem opn_int (W : World) : Opn Try.prog W 3 intC (fun i => (Lit.int .i64 i).wf = true) := Opn.int Try.underlying3
theorem opn_byte (W : World) : Opn Try.prog W 5 byteC (fun _ => True) :=
  Opn.mapG (fun i : Int => UInt8.ofNat i.toNat) (Opn.int Try.underlying5) (fun i h => by
    have h' : 0 ≤ i ∧ i ≤ 255 := by simpa [Lit.wf, IntKind.min, IntKind.max, IntKind.bits, IntKind.signed] using h
    have : ((UInt8.ofNat i.toNat).toNat : Int) = i := by have e : (UInt8.ofNat i.toNat).toNat = i.toNat % 256 := UInt8.toNat_ofNat'; rw [e]; omega
    show [Value.int .u8 i] = [Value.int .u8 _]
    rw [this]) (fun _ _ => trivial)
theorem opn_bytes (W : World) : Opn Try.prog W 22 slC (SlGood W 1 byteC fun _ => True) := Opn.slice Try.underlying22 (by kernel_rfl) (by decide) (opn_byte W)
theorem opn_ints (W : World) : Opn Try.prog W 44 slC (SlGood W 1 intC (fun i => (Lit.int .i64 i).wf = true)) := Opn.slice Try.underlying44 (by kernel_rfl) (by decide) (opn_int W)
theorem opn_bytess (W : World) : Opn Try.prog W 36 slC (SlGood W 1 slC (SlGood W 1 byteC fun _ => True)) := Opn.slice Try.underlying36 (by kernel_rfl) (by decide) (opn_bytes W)
theorem int_in {i : Int} (h : (Lit.int .i64 i).wf = true) : -9223372036854775808 ≤ i ∧ i < 9223372036854775808 := by
  have h' := h
  simp [Lit.wf, IntKind.min, IntKind.max, IntKind.bits, IntKind.signed] at h'
  omega
end Go.Proofs.Ytmfgemhjepagjaa
