/- Keys, records, maps of them: what the walks ask of their types. -/
import Derived.Test.YthlnjkfahmebjaaDoorTy
import Derived.Test.YthlnjkfahmebjaaDoorDat
namespace Go.Proofs.YthlnjkfahmebjaaDoor
open Go Go.Sl Go.Gv
set_option maxRecDepth 100000

theorem cmp_38 : CmpT Tryd.prog 38 keyV 2 :=
  CmpT.of (fun k : Key => (k.o, k.q)) (fun a b => by cases a; cases b; simp) (fun _ => rfl)
    (cmp_ii Tryd.underlying38 Tryd.stoodInHeld38 ⟨by decide, by decide⟩ ⟨⟨rfl, rfl⟩, rfl, rfl⟩ Tryd.underlying3 na_3)
theorem kt_38 : KeyT Tryd.prog 38 keyV :=
  KeyT.struct Tryd.underlying38 cmp_38 (by decide) (fun e k w => check_struct Tryd.underlying38 (by
    intro f hf
    simp only [List.mem_cons, List.not_mem_nil, or_false] at hf
    rcases hf with rfl | rfl
    · exact ⟨_, part_na na_3 rfl, check_int Tryd.underlying3⟩
    · exact ⟨_, part_na na_3 rfl, check_int Tryd.underlying3⟩)) (fun k => by simp [Instr.sameBits])
theorem cmp_40 : CmpT Tryd.prog 40 (fun p : Int × Int => .agg #[.int .i64 p.1, .int .i64 p.2]) 2 :=
  cmp_ii Tryd.underlying40 Tryd.stoodInHeld40 ⟨by decide, by decide⟩ ⟨⟨rfl, rfl⟩, rfl, rfl⟩ Tryd.underlying3 na_3
theorem cmp_42 : CmpT Tryd.prog 42 recV 3 :=
  CmpT.of (fun r : Rec => (r.o, r.q, r.w, r.c, r.t)) (fun a b => by cases a; cases b; simp) (fun _ => rfl)
    (cmp_iiiis Tryd.underlying42 Tryd.stoodInHeld42 ⟨by decide, by decide, by decide⟩ ⟨⟨rfl, rfl, rfl⟩, rfl, rfl, rfl⟩
      (cmp_ii Tryd.underlying38 Tryd.stoodInHeld38 ⟨by decide, by decide⟩ ⟨⟨rfl, rfl⟩, rfl, rfl⟩ Tryd.underlying3 na_3) ag_38 cmp_40 ag_40 Tryd.underlying9 na_9)
abbrev enck_38 : Key → Value := keyV
abbrev encv_42 : Rec → Value := recV
theorem zvk_42 : ZV Tryd.prog 42 (recV Rec.zero) := zv_42
abbrev encC_42 : Rec → List Value := recC
abbrev encC_38 : Key → List Value := keyC
abbrev encC_3 : Int → List Value := intC
theorem ek_42 : EncOk 5 recC := ⟨fun _ => rfl, fun x v hv => by
  simp only [recC, List.mem_cons, List.not_mem_nil, or_false] at hv
  rcases hv with rfl | rfl | rfl | rfl | rfl <;> rfl⟩
theorem ek_38 : EncOk 2 keyC := ⟨fun _ => rfl, fun x v hv => by
  simp only [keyC, List.mem_cons, List.not_mem_nil, or_false] at hv
  rcases hv with rfl | rfl <;> rfl⟩
theorem ek_3 : EncOk 1 intC := ⟨fun _ => rfl, fun x v hv => by
  simp only [intC, List.mem_cons, List.not_mem_nil, or_false] at hv
  rcases hv with rfl; rfl⟩
end Go.Proofs.YthlnjkfahmebjaaDoor
