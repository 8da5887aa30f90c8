/- Keys, records, maps of them: what the walks ask of their types. -/
import Derived.Test.YthikmfpfbfjbiaaDoorTy
import Derived.Test.YthikmfpfbfjbiaaDoorDat
namespace Go.Proofs.YthikmfpfbfjbiaaDoor
open Go Go.Sl Go.Gv
set_option maxRecDepth 100000

theorem cmp_25 : CmpT Tryd.prog 25 keyV 2 :=
  CmpT.of (fun k : Key => (k.o, k.q)) (fun a b => by cases a; cases b; simp) (fun _ => rfl)
    (cmp_ii Tryd.underlying25 Tryd.stoodInHeld25 ⟨by decide, by decide⟩ ⟨⟨rfl, rfl⟩, rfl, rfl⟩ Tryd.underlying3 na_3)
theorem kt_25 : KeyT Tryd.prog 25 keyV :=
  KeyT.struct Tryd.underlying25 cmp_25 (by decide) (fun e k w => check_struct Tryd.underlying25 (by
    intro f hf
    simp only [List.mem_cons, List.not_mem_nil, or_false] at hf
    rcases hf with rfl | rfl
    · exact ⟨_, part_na na_3 rfl, check_int Tryd.underlying3⟩
    · exact ⟨_, part_na na_3 rfl, check_int Tryd.underlying3⟩)) (fun k => by simp [Instr.sameBits])
theorem cmp_27 : CmpT Tryd.prog 27 (fun p : Int × Int => .agg #[.int .i64 p.1, .int .i64 p.2]) 2 :=
  cmp_ii Tryd.underlying27 Tryd.stoodInHeld27 ⟨by decide, by decide⟩ ⟨⟨rfl, rfl⟩, rfl, rfl⟩ Tryd.underlying3 na_3
theorem cmp_29 : CmpT Tryd.prog 29 recV 3 :=
  CmpT.of (fun r : Rec => (r.o, r.q, r.w, r.c, r.t)) (fun a b => by cases a; cases b; simp) (fun _ => rfl)
    (cmp_iiiis Tryd.underlying29 Tryd.stoodInHeld29 ⟨by decide, by decide, by decide⟩ ⟨⟨rfl, rfl, rfl⟩, rfl, rfl, rfl⟩
      (cmp_ii Tryd.underlying25 Tryd.stoodInHeld25 ⟨by decide, by decide⟩ ⟨⟨rfl, rfl⟩, rfl, rfl⟩ Tryd.underlying3 na_3) ag_25 cmp_27 ag_27 Tryd.underlying9 na_9)
abbrev enck_25 : Key → Value := keyV
abbrev encv_29 : Rec → Value := recV
theorem zvk_29 : ZV Tryd.prog 29 (recV Rec.zero) := zv_29
abbrev encC_29 : Rec → List Value := recC
abbrev encC_25 : Key → List Value := keyC
abbrev encC_3 : Int → List Value := intC
theorem ek_29 : EncOk 5 recC := ⟨fun _ => rfl, fun x v hv => by
  simp only [recC, List.mem_cons, List.not_mem_nil, or_false] at hv
  rcases hv with rfl | rfl | rfl | rfl | rfl <;> rfl⟩
theorem ek_25 : EncOk 2 keyC := ⟨fun _ => rfl, fun x v hv => by
  simp only [keyC, List.mem_cons, List.not_mem_nil, or_false] at hv
  rcases hv with rfl | rfl <;> rfl⟩
theorem ek_3 : EncOk 1 intC := ⟨fun _ => rfl, fun x v hv => by
  simp only [intC, List.mem_cons, List.not_mem_nil, or_false] at hv
  rcases hv with rfl; rfl⟩
end Go.Proofs.YthikmfpfbfjbiaaDoor
