/- Keys, records, beside posts: what the walks ask of their types. -/
import Derived.Test.YtmbikfojljnnkaaGreatDoorMA
namespace Go.Proofs.YtmbikfojljnnkaaGreatDoor
open Go Go.Sl Go.Gv Go.Po
set_option maxRecDepth 100000

theorem kt_31 : KeyT Tryz.prog 31 keyV :=
  KeyT.struct Tryz.underlying31 cmp_31 (by decide) (fun e k w => check_struct Tryz.underlying31 (by
    intro f hf
    simp only [List.mem_cons, List.not_mem_nil, or_false] at hf
    rcases hf with rfl | rfl
    · exact ⟨_, part_na na_3 rfl, check_int Tryz.underlying3⟩
    · exact ⟨_, part_na na_3 rfl, check_int Tryz.underlying3⟩)) (fun k => by simp [Instr.sameBits])
theorem cmp_33 : CmpT Tryz.prog 33 (fun p : Int × Int => .agg #[.int .i64 p.1, .int .i64 p.2]) 2 :=
  cmp_ii Tryz.underlying33 Tryz.stoodInHeld33 ⟨by decide, by decide⟩ ⟨⟨rfl, rfl⟩, rfl, rfl⟩ Tryz.underlying3 na_3
theorem cmp_35 : CmpT Tryz.prog 35 recV 3 :=
  CmpT.of (fun r : Rec => (r.o, r.q, r.w, r.c, r.t)) (fun a b => by cases a; cases b; simp) (fun _ => rfl)
    (cmp_iiiis Tryz.underlying35 Tryz.stoodInHeld35 ⟨by decide, by decide, by decide⟩ ⟨⟨rfl, rfl, rfl⟩, rfl, rfl, rfl⟩
      (cmp_ii Tryz.underlying31 Tryz.stoodInHeld31 ⟨by decide, by decide⟩ ⟨⟨rfl, rfl⟩, rfl, rfl⟩ Tryz.underlying3 na_3) ag_31 cmp_33 ag_33 Tryz.underlying9 na_9)
abbrev enck_31 : Key → Value := keyV
abbrev encv_35 : Rec → Value := recV
theorem zvk_35 : ZV Tryz.prog 35 (recV Rec.zero) := zv_35
abbrev encC_35 : Rec → List Value := recC
theorem ek_35 : EncOk 5 recC := ⟨fun _ => rfl, fun x v hv => by
  simp only [recC, List.mem_cons, List.not_mem_nil, or_false] at hv
  rcases hv with rfl | rfl | rfl | rfl | rfl <;> rfl⟩
end Go.Proofs.YtmbikfojljnnkaaGreatDoor
