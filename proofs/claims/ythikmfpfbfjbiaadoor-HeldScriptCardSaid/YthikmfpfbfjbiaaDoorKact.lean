/- How the acts of grapevinelaw18 read. -/
import Derived.Test.YthikmfpfbfjbiaaDoorKopn
import Derived.Test.YthikmfpfbfjbiaaDoorScript18
namespace Go.Proofs.YthikmfpfbfjbiaaDoor
open Go Go.Sl Go.Gv
set_option maxRecDepth 100000
theorem opn_act (W : World) : Opn Tryd.prog W 32 actC (fun x => slR (whole W) 1 intC x.wa x.ws) :=
  (Opn.struct Tryd.underlying32 (by kernel_rfl) (OpnF.cons (s := 1) rfl (by kernel_rfl) (opn_int W) (OpnF.cons (s := 5) rfl (by kernel_rfl) (opn_rec W) (OpnF.cons (s := 1) rfl (by kernel_rfl) (opn_ints W) OpnF.nil)))).map
    (fun p => (⟨p.1, p.2.1, p.2.2.1.a, p.2.2.1.xs, p.2.2.1.c⟩ : ActV)) (fun _ => rfl) (fun _ h => h.2.2.1.1)
theorem opn_acts (W : World) : Opn Tryd.prog W 22 slC (SlGood W 7 actC fun x => slR (whole W) 1 intC x.wa x.ws) := Opn.slice Tryd.underlying22 (by kernel_rfl) (by decide) (opn_act W)
end Go.Proofs.YthikmfpfbfjbiaaDoor
