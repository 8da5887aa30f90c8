/- How this program's types read. -/
import Derived.Test.YthlnjkfahmebjaaDoorOpn
import Derived.Test.YthlnjkfahmebjaaDoorTree
namespace Go.Proofs.YthlnjkfahmebjaaDoor
open Go Go.Sl Go.Gv
set_option maxRecDepth 100000

theorem opn_int (W : World) : Opn Tryd.prog W 3 intC (fun i => (Lit.int .i64 i).wf = true) := Opn.int Tryd.underlying3
theorem opn_str (W : World) : Opn Tryd.prog W 9 (fun s : ByteArray => [.string s]) (fun s => s.size ≤ maxLen) := Opn.str Tryd.underlying9
theorem opn_key (W : World) : Opn Tryd.prog W 38 keyC (fun k => (Lit.int .i64 k.o).wf = true ∧ (Lit.int .i64 k.q).wf = true) :=
  (Opn.struct Tryd.underlying38 (by kernel_rfl) (OpnF.cons (s := 1) rfl (by kernel_rfl) (opn_int W) (OpnF.cons (s := 1) rfl (by kernel_rfl) (opn_int W) OpnF.nil))).map (fun p => ⟨p.1, p.2.1⟩) (fun _ => rfl) (fun _ h => ⟨h.1, h.2.1⟩)
theorem opn_stamp (W : World) : Opn Tryd.prog W 40 (fun p : Int × Int => [int p.1, int p.2]) (fun p => (Lit.int .i64 p.1).wf = true ∧ (Lit.int .i64 p.2).wf = true) :=
  (Opn.struct Tryd.underlying40 (by kernel_rfl) (OpnF.cons (s := 1) rfl (by kernel_rfl) (opn_int W) (OpnF.cons (s := 1) rfl (by kernel_rfl) (opn_int W) OpnF.nil))).map (fun p => (p.1, p.2.1)) (fun _ => rfl) (fun _ h => ⟨h.1, h.2.1⟩)
theorem opn_rec (W : World) : Opn Tryd.prog W 42 recC (fun r => r.t.size ≤ maxLen) :=
  (Opn.struct Tryd.underlying42 (by kernel_rfl) (OpnF.cons (s := 2) rfl (by kernel_rfl) (opn_key W) (OpnF.cons (s := 2) rfl (by kernel_rfl) (opn_stamp W) (OpnF.cons (s := 1) rfl (by kernel_rfl) (opn_str W) OpnF.nil)))).map (fun p => ⟨p.1.o, p.1.q, p.2.1.1, p.2.1.2, p.2.2.1⟩) (fun _ => rfl) (fun _ h => h.2.2.1)
abbrev goodRec (r : Rec) : Prop := r.t.size ≤ maxLen
theorem opn_recs (W : World) : Opn Tryd.prog W 22 slC (SlGood W 5 recC goodRec) := Opn.slice Tryd.underlying22 (by kernel_rfl) (by decide) (opn_rec W)
theorem opn_range (W : World) : Opn Tryd.prog W 49 partC (fun _ => True) :=
  (Opn.struct Tryd.underlying49 (by kernel_rfl) (OpnF.cons (s := 1) rfl (by kernel_rfl) (opn_int W) (OpnF.cons (s := 1) rfl (by kernel_rfl) (opn_int W) (OpnF.cons (s := 1) rfl (by kernel_rfl) (opn_int W) OpnF.nil)))).map (fun p => (⟨p.1, p.2.1, p.2.2.1⟩ : Part)) (fun _ => rfl) (fun _ _ => trivial)
end Go.Proofs.YthlnjkfahmebjaaDoor
