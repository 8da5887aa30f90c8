/- How this program's types read. -/
import Derived.Test.YtmbikfojljnnkaaGreatDoorOpn
import Derived.Test.YtmbikfojljnnkaaGreatDoorIx2
namespace Go.Proofs.YtmbikfojljnnkaaGreatDoor
open Go Go.Sl Go.Gv
set_option maxRecDepth 100000
theorem opn_int (W : World) : Opn Tryz.prog W 3 intC (fun i => (Lit.int .i64 i).wf = true) := Opn.int Tryz.underlying3
theorem opn_str (W : World) : Opn Tryz.prog W 9 (fun s : ByteArray => [.string s]) (fun s => s.size ≤ maxLen) := Opn.str Tryz.underlying9
theorem opn_key (W : World) : Opn Tryz.prog W 31 keyC (fun k => (Lit.int .i64 k.o).wf = true ∧ (Lit.int .i64 k.q).wf = true) :=
  (Opn.struct Tryz.underlying31 (by kernel_rfl) (OpnF.cons (s := 1) rfl (by kernel_rfl) (opn_int W) (OpnF.cons (s := 1) rfl (by kernel_rfl) (opn_int W) OpnF.nil))).map (fun p => ⟨p.1, p.2.1⟩) (fun _ => rfl) (fun _ h => ⟨h.1, h.2.1⟩)
theorem opn_stamp (W : World) : Opn Tryz.prog W 33 (fun p : Int × Int => [int p.1, int p.2]) (fun p => (Lit.int .i64 p.1).wf = true ∧ (Lit.int .i64 p.2).wf = true) :=
  (Opn.struct Tryz.underlying33 (by kernel_rfl) (OpnF.cons (s := 1) rfl (by kernel_rfl) (opn_int W) (OpnF.cons (s := 1) rfl (by kernel_rfl) (opn_int W) OpnF.nil))).map (fun p => (p.1, p.2.1)) (fun _ => rfl) (fun _ h => ⟨h.1, h.2.1⟩)
theorem opn_rec (W : World) : Opn Tryz.prog W 35 recC (fun r => r.t.size ≤ maxLen) :=
  (Opn.struct Tryz.underlying35 (by kernel_rfl) (OpnF.cons (s := 2) rfl (by kernel_rfl) (opn_key W) (OpnF.cons (s := 2) rfl (by kernel_rfl) (opn_stamp W) (OpnF.cons (s := 1) rfl (by kernel_rfl) (opn_str W) OpnF.nil)))).map (fun p => ⟨p.1.o, p.1.q, p.2.1.1, p.2.1.2, p.2.2.1⟩) (fun _ => rfl) (fun _ h => h.2.2.1)
abbrev goodRec (r : Rec) : Prop := r.t.size ≤ maxLen
theorem opn_recs (W : World) : Opn Tryz.prog W 27 slC (SlGood W 5 recC goodRec) := Opn.slice Tryz.underlying27 (by kernel_rfl) (by decide) (opn_rec W)
theorem opn_act (W : World) : Opn Tryz.prog W 37 actI (fun _ => True) :=
  (Opn.struct Tryz.underlying37 (by kernel_rfl) (OpnF.cons (s := 1) rfl (by kernel_rfl) (Opn.bool Tryz.underlying4) (OpnF.cons (s := 5) rfl (by kernel_rfl) (opn_rec W) OpnF.nil))).map (fun p => (⟨p.1, p.2.1⟩ : ActI)) (fun _ => rfl) (fun _ _ => trivial)
theorem opn_acts (W : World) : Opn Tryz.prog W 22 slC (SlGood W 6 actI (fun _ => True)) := Opn.slice Tryz.underlying22 (by kernel_rfl) (by decide) (opn_act W)
end Go.Proofs.YtmbikfojljnnkaaGreatDoor
