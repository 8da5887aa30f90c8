/- Keys, records, maps of them: what the walks ask of their types. -/
import Derived.Test.YtjaafkakeccniaaGreatDoorTy
import Derived.Test.YtjaafkakeccniaaGreatDoorMK
import Derived.Test.YtjaafkakeccniaaGreatDoorDk
namespace Go.Proofs.YtjaafkakeccniaaGreatDoor
open Go Go.Sl Go.Gv
set_option maxRecDepth 100000

theorem cmp_37 : CmpT Tryz.prog 37 keyV 2 :=
  CmpT.of (fun k : Key => (k.o, k.q)) (fun a b => by cases a; cases b; simp) (fun _ => rfl)
    (cmp_ii Tryz.underlying37 Tryz.stoodInHeld37 ⟨by decide, by decide⟩ ⟨⟨rfl, rfl⟩, rfl, rfl⟩ Tryz.underlying3 na_3)
theorem kt_37 : KeyT Tryz.prog 37 keyV :=
  KeyT.struct Tryz.underlying37 cmp_37 (by decide) (fun e k w => check_struct Tryz.underlying37 (by
    intro f hf
    simp only [List.mem_cons, List.not_mem_nil, or_false] at hf
    rcases hf with rfl | rfl
    · exact ⟨_, part_na na_3 rfl, check_int Tryz.underlying3⟩
    · exact ⟨_, part_na na_3 rfl, check_int Tryz.underlying3⟩)) (fun k => by simp [Instr.sameBits])
theorem cmp_39 : CmpT Tryz.prog 39 (fun p : Int × Int => .agg #[.int .i64 p.1, .int .i64 p.2]) 2 :=
  cmp_ii Tryz.underlying39 Tryz.stoodInHeld39 ⟨by decide, by decide⟩ ⟨⟨rfl, rfl⟩, rfl, rfl⟩ Tryz.underlying3 na_3
theorem cmp_41 : CmpT Tryz.prog 41 recV 3 :=
  CmpT.of (fun r : Rec => (r.o, r.q, r.w, r.c, r.t)) (fun a b => by cases a; cases b; simp) (fun _ => rfl)
    (cmp_iiiis Tryz.underlying41 Tryz.stoodInHeld41 ⟨by decide, by decide, by decide⟩ ⟨⟨rfl, rfl, rfl⟩, rfl, rfl, rfl⟩
      (cmp_ii Tryz.underlying37 Tryz.stoodInHeld37 ⟨by decide, by decide⟩ ⟨⟨rfl, rfl⟩, rfl, rfl⟩ Tryz.underlying3 na_3) ag_37 cmp_39 ag_39 Tryz.underlying9 na_9)
abbrev enck_37 : Key → Value := keyV
abbrev encv_41 : Rec → Value := recV
theorem zvk_41 : ZV Tryz.prog 41 (recV Rec.zero) := zv_41
abbrev encC_41 : Rec → List Value := recC
abbrev encC_37 : Key → List Value := keyC
theorem ek_41 : EncOk 5 recC := ⟨fun _ => rfl, fun x v hv => by
  simp only [recC, List.mem_cons, List.not_mem_nil, or_false] at hv
  rcases hv with rfl | rfl | rfl | rfl | rfl <;> rfl⟩
theorem ek_37 : EncOk 2 keyC := ⟨fun _ => rfl, fun x v hv => by
  simp only [keyC, List.mem_cons, List.not_mem_nil, or_false] at hv
  rcases hv with rfl | rfl <;> rfl⟩
end Go.Proofs.YtjaafkakeccniaaGreatDoor
