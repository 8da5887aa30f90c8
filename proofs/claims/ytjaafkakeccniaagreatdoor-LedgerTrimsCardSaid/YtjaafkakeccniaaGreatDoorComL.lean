/- What the closings share: the world in which the listed variables lie as laid; how entries read. -/
import Derived.Test.YtjaafkakeccniaaGreatDoorCards
import Derived.Test.YtjaafkakeccniaaGreatDoorTie
import Derived.Test.YtjaafkakeccniaaGreatDoorOpn
import Derived.Test.YtjaafkakeccniaaGreatDoorML
import Derived.Carry
import Derived.Lib.LaidIn
import Derived.Lib.LaidU8T
import Derived.Deep.DeepHandedRow
import Derived.Deep.DeepWitnessRowRef
import Derived.ProofKit
import Derived.SizedLaws
import Derived.OpenShut
namespace Go.Proofs.YtjaafkakeccniaaGreatDoor
open Go Go.Sl Go.ChangeShapes Go.WideShapes Go.ChangeAt Go.RowKit Go.Lib Go.Shelf Go.Gv
set_option maxRecDepth 100000
theorem own : ownKnob Tryz.prog.godebug = none := by kernel_rfl
theorem laidOut : laidOutB Tryz.prog = true := by kernel_rfl
abbrev laidList : List (String × DataW Unit) := [("math/bits.deBruijn32tab", Rows.laid_math_bits_deBruijn32tab), ("math/bits.deBruijn64tab", Rows.laid_math_bits_deBruijn64tab), ("internal/strconv.uint64pow10", Rows.laid_internal_strconv_uint64pow10)] ++ [("unicode/utf8.acceptRanges", acceptData)] ++ [("strconv.ErrRange", Rows.laid_strconv_ErrRange), ("strconv.ErrSyntax", Rows.laid_strconv_ErrSyntax)] ++ [("unicode/utf8.first", firstData)]
noncomputable abbrev N0 : Nat := (World.settled Tryz.prog default).heap.size
/-- The settled world with two blocks more; the variables hold what their initialisers lay. -/
noncomputable def laidWorld (os : Os) : World :=
  let N := (World.settled Tryz.prog os).heap.size
  let w0 := World.holding Tryz.prog os ⟨#[
    .cells #[.string ⟨#[118, 97, 108, 117, 101, 32, 111, 117, 116, 32, 111, 102, 32, 114, 97, 110, 103, 101]⟩] 184, .cells #[.string ⟨#[105, 110, 118, 97, 108, 105, 100, 32, 115, 121, 110, 116, 97, 120]⟩] 184], #[], []⟩
  let put (h : Array Obj) (g : Nat) (cs : Array Value) : Array Obj := h.modify g fun
    | .cells _ t frozen => .cells cs t frozen
    | o => o
  let h1 := put w0.heap 2 (Go.Pinned.utf8FirstZ.map fun (z : Nat) => Value.int .u8 z).toArray
  let h2 := put h1 3 ((List.range 16).flatMap fun i => [Value.int .u8 (Lib.accLo i), Value.int .u8 (Lib.accHi i)]).toArray
  let h3 := put h2 6 (([0, 1, 28, 2, 29, 14, 24, 3, 30, 22, 20, 15, 25, 17, 4, 8, 31, 27, 13, 23, 21, 19, 16, 7, 26, 12, 18, 6, 11, 5, 10, 9] : List Int).map fun z => Value.int .u8 z).toArray
  let h4 := put h3 7 (([0, 1, 56, 2, 57, 49, 28, 3, 61, 58, 42, 50, 38, 29, 17, 4, 62, 47, 59, 36, 45, 43, 51, 22, 53, 39, 33, 30, 24, 18, 12, 5, 63, 55, 48, 27, 60, 41, 37, 16, 46, 35, 44, 21, 52, 32, 23, 11, 54, 26, 40, 15, 34, 20, 31, 10, 25, 14, 19, 9, 13, 8, 7, 6] : List Int).map fun z => Value.int .u8 z).toArray
  let h5 := put h4 4 (([1, 10, 100, 1000, 10000, 100000, 1000000, 10000000, 100000000, 1000000000, 10000000000, 100000000000, 1000000000000, 10000000000000, 100000000000000, 1000000000000000, 10000000000000000, 100000000000000000, 1000000000000000000, 10000000000000000000] : List Int).map fun z => Value.int .u64 z).toArray
  let h6 := put h5 1 #[.iface 182 (.pointer (some ⟨N, 0, none⟩))]
  let h7 := put h6 0 #[.iface 182 (.pointer (some ⟨N + 1, 0, none⟩))]
  { w0 with heap := h7 }
noncomputable abbrev lw (os : Os) (args : Array Value) : World := ((laidWorld os).forCall (fun _ _ => 0) ⟨#[], args, []⟩).memory
theorem piece0 (os : Os) (args : Array Value) : LaidIn Tryz.prog (lw os args) [("math/bits.deBruijn32tab", Rows.laid_math_bits_deBruijn32tab), ("math/bits.deBruijn64tab", Rows.laid_math_bits_deBruijn64tab), ("internal/strconv.uint64pow10", Rows.laid_internal_strconv_uint64pow10)] [6, 7, 4] :=
  LaidIn.of_run _ 8 (by kernel_rfl) (by kernel_rfl) (by kernel_rfl) (by kernel_rfl)
theorem piece1 (os : Os) (args : Array Value) : LaidIn Tryz.prog (lw os args) [("unicode/utf8.acceptRanges", acceptData)] [3] :=
  LaidIn.of_run _ 8 (by kernel_rfl) (by kernel_rfl) (by kernel_rfl) (by kernel_rfl)
theorem piece2 (os : Os) (args : Array Value) : LaidIn Tryz.prog (lw os args) [("strconv.ErrRange", Rows.laid_strconv_ErrRange), ("strconv.ErrSyntax", Rows.laid_strconv_ErrSyntax)] [1, 0, N0, N0 + 1] :=
  LaidIn.of_run _ 8 (by kernel_rfl) (by kernel_rfl) (by kernel_rfl) (by kernel_rfl)
theorem piece3 (os : Os) (args : Array Value) : LaidIn Tryz.prog (lw os args) [("unicode/utf8.first", firstData)] [2] :=
  LaidIn.of_run _ 8 (by kernel_rfl) (by kernel_rfl) (by kernel_rfl) (by kernel_rfl)
theorem laid_all (os : Os) (args : Array Value) : laidMet Tryz.prog laidList (lw os args) :=
  ((((piece0 os args).append (piece1 os args) (by kernel_rfl)).append (piece2 os args) (by kernel_rfl)).append (piece3 os args) (by kernel_rfl)).met
theorem cell_le {W w : World} (h : Hp.le (whole W) w) {a : Addr} {v : Value} (e : W.cell? a = some v) : w.cell? a = some v := by
  cases hb : W.heap[a.block]? with
  | none => simp [World.cell?, hb] at e
  | some o =>
    have : w.heap[a.block]? = some o := h a.block o (by simp [whole, hb])
    rw [← e]; simp [World.cell?, hb, this]
theorem tabs_of {W : World} (hL : laidMet Tryz.prog laidList W) : Tabs (whole W) := by
  have h1 := Lib.laidMet.reads hL (.tail _ (.tail _ (.tail _ (.head _))))
  have h2 := Lib.laidMet.reads hL (.tail _ (.tail _ (.tail _ (.tail _ (.tail _ (.tail _ (.head _)))))))
  have h : Lib.Utf8Tabs (Tryz.laysValid_ren.g 3) (Tryz.laysValid_ren.g 4) W := utf8Tabs_of_readsT (U8Types.of196 Tryz.laysValid) ⟨by kernel_rfl, by kernel_rfl, by kernel_rfl, by kernel_rfl, by kernel_rfl, by kernel_rfl, by kernel_rfl⟩ h2 h1
  exact fun w hle => ⟨fun c hc => cell_le hle (h.1 c hc), fun i hi => ⟨cell_le hle (h.2 i hi).1, cell_le hle (h.2 i hi).2⟩⟩
/-- What a walk's contract over the whole of a world gives: nothing that was there turns. -/
theorem calls_of {P : Program} {f : FuncId} {args : List Value} {W : World} (c : Ct P f args [ro (whole W)] (fun v hs => v = .bool true ∧ hs = [ro (whole W)])) :
    Calls P f args.toArray W fun e W' => e = .returned (.bool true) ∧ Below W.heap.size W W' :=
  (c.calls W W [] (Sat.start W)).mono fun e W' ⟨v, hs, he, ⟨hv, hhs⟩, hsat⟩ => by
    subst hv; subst hhs
    exact ⟨he, Sat.below hsat⟩
theorem opn_int (W : World) : Opn Tryz.prog W 3 intC (fun i => (Lit.int .i64 i).wf = true) := Opn.int Tryz.underlying3
theorem opn_str (W : World) : Opn Tryz.prog W 9 (fun s : ByteArray => [.string s]) (fun s => s.size ≤ maxLen) := Opn.str Tryz.underlying9
theorem opn_key (W : World) : Opn Tryz.prog W 37 keyC (fun k => (Lit.int .i64 k.o).wf = true ∧ (Lit.int .i64 k.q).wf = true) :=
  (Opn.struct Tryz.underlying37 (by kernel_rfl) (OpnF.cons (s := 1) rfl (by kernel_rfl) (opn_int W) (OpnF.cons (s := 1) rfl (by kernel_rfl) (opn_int W) OpnF.nil))).map (fun p => ⟨p.1, p.2.1⟩) (fun _ => rfl) (fun _ h => ⟨h.1, h.2.1⟩)
theorem opn_stamp (W : World) : Opn Tryz.prog W 39 (fun p : Int × Int => [int p.1, int p.2]) (fun p => (Lit.int .i64 p.1).wf = true ∧ (Lit.int .i64 p.2).wf = true) :=
  (Opn.struct Tryz.underlying39 (by kernel_rfl) (OpnF.cons (s := 1) rfl (by kernel_rfl) (opn_int W) (OpnF.cons (s := 1) rfl (by kernel_rfl) (opn_int W) OpnF.nil))).map (fun p => (p.1, p.2.1)) (fun _ => rfl) (fun _ h => ⟨h.1, h.2.1⟩)
theorem opn_rec (W : World) : Opn Tryz.prog W 41 recC (fun r => r.t.size ≤ maxLen) :=
  (Opn.struct Tryz.underlying41 (by kernel_rfl) (OpnF.cons (s := 2) rfl (by kernel_rfl) (opn_key W) (OpnF.cons (s := 2) rfl (by kernel_rfl) (opn_stamp W) (OpnF.cons (s := 1) rfl (by kernel_rfl) (opn_str W) OpnF.nil)))).map (fun p => ⟨p.1.o, p.1.q, p.2.1.1, p.2.1.2, p.2.2.1⟩) (fun _ => rfl) (fun _ h => h.2.2.1)
abbrev goodRec (r : Rec) : Prop := r.t.size ≤ maxLen
abbrev goodInt (i : Int) : Prop := (Lit.int .i64 i).wf = true
theorem opn_ints (W : World) : Opn Tryz.prog W 23 slC (SlGood W 1 intC goodInt) := Opn.slice Tryz.underlying23 (by kernel_rfl) (by decide) (opn_int W)
abbrev goodEnt (W : World) (e : EntV) : Prop := SlGood W 1 intC goodInt e.v ∧ SlGood W 1 intC goodInt e.w ∧ goodRec e.r
theorem opn_entry (W : World) : Opn Tryz.prog W 43 entC (goodEnt W) :=
  (Opn.struct Tryz.underlying43 (by kernel_rfl) (OpnF.cons (s := 1) rfl (by kernel_rfl) (opn_int W) (OpnF.cons (s := 1) rfl (by kernel_rfl) (opn_ints W) (OpnF.cons (s := 1) rfl (by kernel_rfl) (opn_ints W) (OpnF.cons (s := 5) rfl (by kernel_rfl) (opn_rec W) OpnF.nil))))).map (fun p => ⟨p.1, p.2.1, p.2.2.1, p.2.2.2.1⟩) (fun _ => rfl) (fun _ h => ⟨h.2.1, h.2.2.1, h.2.2.2.1⟩)
theorem opn_entries (W : World) : Opn Tryz.prog W 22 slC (SlGood W 8 entC (goodEnt W)) := Opn.slice Tryz.underlying22 (by kernel_rfl) (by decide) (opn_entry W)
theorem erd_of {W : World} {s : SlV EntV} (h : SlGood W 8 entC (goodEnt W) s) : ERd (ro (whole W)) s.a s.xs :=
  ⟨Srd.ro h.1, fun e he => ⟨Srd.ro (h.2.2.2.2 e he).1.1, Srd.ro (h.2.2.2.2 e he).2.1.1⟩⟩
end Go.Proofs.YtjaafkakeccniaaGreatDoor
