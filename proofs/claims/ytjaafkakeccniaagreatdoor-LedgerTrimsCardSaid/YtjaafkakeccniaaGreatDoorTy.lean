/- Facts on the program's types, printed by wip/gen/gen.py. -/
import Derived.Test.YtjaafkakeccniaaGreatDoorProg
import Derived.Test.YtjaafkakeccniaaGreatDoorRg
import Derived.Test.YtjaafkakeccniaaGreatDoorMore
namespace Go.Proofs.YtjaafkakeccniaaGreatDoor
open Go Go.Sl
set_option maxRecDepth 100000
theorem na_2 : NA Tryz.prog 2 := ⟨Tryz.isAgg2⟩
theorem sz_2 : SZ Tryz.prog 2 1 := ⟨Tryz.sizeOf2⟩
theorem zv_2 : ZV Tryz.prog 2 (.int .i64 0) := ⟨fun w => Tryz.zeroValue2 w⟩
theorem na_3 : NA Tryz.prog 3 := ⟨Tryz.isAgg3⟩
theorem sz_3 : SZ Tryz.prog 3 1 := ⟨Tryz.sizeOf3⟩
theorem zv_3 : ZV Tryz.prog 3 (.int .i64 0) := ⟨fun w => Tryz.zeroValue3 w⟩
theorem na_4 : NA Tryz.prog 4 := ⟨Tryz.isAgg4⟩
theorem sz_4 : SZ Tryz.prog 4 1 := ⟨Tryz.sizeOf4⟩
theorem zv_4 : ZV Tryz.prog 4 (.bool false) := ⟨fun w => Tryz.zeroValue4 w⟩
theorem na_5 : NA Tryz.prog 5 := ⟨Tryz.isAgg5⟩
theorem sz_5 : SZ Tryz.prog 5 1 := ⟨Tryz.sizeOf5⟩
theorem zv_5 : ZV Tryz.prog 5 (.int .u8 0) := ⟨fun w => Tryz.zeroValue5 w⟩
theorem na_9 : NA Tryz.prog 9 := ⟨Tryz.isAgg9⟩
theorem sz_9 : SZ Tryz.prog 9 1 := ⟨Tryz.sizeOf9⟩
theorem zv_9 : ZV Tryz.prog 9 (.string ⟨#[]⟩) := ⟨fun w => Tryz.zeroValue9 w⟩
theorem na_12 : NA Tryz.prog 12 := ⟨Tryz.isAgg12⟩
theorem sz_12 : SZ Tryz.prog 12 1 := ⟨Tryz.sizeOf12⟩
theorem zv_12 : ZV Tryz.prog 12 (.int .u64 0) := ⟨fun w => Tryz.zeroValue12 w⟩
theorem na_21 : NA Tryz.prog 21 := ⟨Tryz.isAgg21⟩
theorem sz_21 : SZ Tryz.prog 21 1 := ⟨Tryz.sizeOf21⟩
theorem zv_21 : ZV Tryz.prog 21 (.int .i32 0) := ⟨fun w => Tryz.zeroValue21 w⟩
theorem na_22 : NA Tryz.prog 22 := ⟨Tryz.isAgg22⟩
theorem sz_22 : SZ Tryz.prog 22 1 := ⟨Tryz.sizeOf22⟩
theorem zv_22 : ZV Tryz.prog 22 (.slice none 0 0) := ⟨fun w => Tryz.zeroValue22 w⟩
theorem et_22 : ET Tryz.prog 22 43 8 104 := ET.mk' Tryz.underlying22 Tryz.typeInfo43 rfl rfl rfl rfl
theorem se_22 : SE Tryz.prog 22 8 := ⟨⟨43, Tryz.underlying22, Tryz.sizeOf43⟩⟩
theorem na_23 : NA Tryz.prog 23 := ⟨Tryz.isAgg23⟩
theorem sz_23 : SZ Tryz.prog 23 1 := ⟨Tryz.sizeOf23⟩
theorem zv_23 : ZV Tryz.prog 23 (.slice none 0 0) := ⟨fun w => Tryz.zeroValue23 w⟩
theorem et_23 : ET Tryz.prog 23 3 1 8 := ET.mk' Tryz.underlying23 Tryz.typeInfo3 rfl rfl rfl rfl
theorem se_23 : SE Tryz.prog 23 1 := ⟨⟨3, Tryz.underlying23, Tryz.sizeOf3⟩⟩
theorem na_26 : NA Tryz.prog 26 := ⟨Tryz.isAgg26⟩
theorem sz_26 : SZ Tryz.prog 26 1 := ⟨Tryz.sizeOf26⟩
theorem zv_26 : ZV Tryz.prog 26 (.pointer none) := ⟨fun w => Tryz.zeroValue26 w⟩
theorem na_28 : NA Tryz.prog 28 := ⟨Tryz.isAgg28⟩
theorem sz_28 : SZ Tryz.prog 28 1 := ⟨Tryz.sizeOf28⟩
theorem zv_28 : ZV Tryz.prog 28 (.pointer none) := ⟨fun w => Tryz.zeroValue28 w⟩
theorem na_29 : NA Tryz.prog 29 := ⟨Tryz.isAgg29⟩
theorem sz_29 : SZ Tryz.prog 29 1 := ⟨Tryz.sizeOf29⟩
theorem zv_29 : ZV Tryz.prog 29 (.int .i64 0) := ⟨fun w => Tryz.zeroValue29 w⟩
theorem ag_37 : AG Tryz.prog 37 2 := ⟨Tryz.isAgg37, Tryz.sizeOf37⟩
theorem sz_37 : SZ Tryz.prog 37 2 := ⟨Tryz.sizeOf37⟩
theorem zv_37 : ZV Tryz.prog 37 (.agg #[.int .i64 0, .int .i64 0]) := ⟨fun w => Tryz.zeroValue37 w⟩
theorem fa_37_0 : FA Tryz.prog 37 0 0 := FA.mk' Tryz.underlying37 rfl rfl Tryz.sizeOf3
theorem fn_37_0 : FN Tryz.prog 37 0 0 := FN.mk' Tryz.underlying37 rfl rfl Tryz.isAgg3
theorem fa_37_1 : FA Tryz.prog 37 1 1 := FA.mk' Tryz.underlying37 rfl rfl Tryz.sizeOf3
theorem fn_37_1 : FN Tryz.prog 37 1 1 := FN.mk' Tryz.underlying37 rfl rfl Tryz.isAgg3
theorem bd_37 : BD Tryz.prog 37 [(0, 1), (1, 1)] [.int .i64 0, .int .i64 0] := BD.mk' Tryz.underlying37 Tryz.zeroValue37 ⟨rfl, Tryz.sizeOf3, rfl, Tryz.sizeOf3, trivial⟩
theorem ag_39 : AG Tryz.prog 39 2 := ⟨Tryz.isAgg39, Tryz.sizeOf39⟩
theorem sz_39 : SZ Tryz.prog 39 2 := ⟨Tryz.sizeOf39⟩
theorem zv_39 : ZV Tryz.prog 39 (.agg #[.int .i64 0, .int .i64 0]) := ⟨fun w => Tryz.zeroValue39 w⟩
theorem fa_39_0 : FA Tryz.prog 39 0 0 := FA.mk' Tryz.underlying39 rfl rfl Tryz.sizeOf3
theorem fn_39_0 : FN Tryz.prog 39 0 0 := FN.mk' Tryz.underlying39 rfl rfl Tryz.isAgg3
theorem fa_39_1 : FA Tryz.prog 39 1 1 := FA.mk' Tryz.underlying39 rfl rfl Tryz.sizeOf3
theorem fn_39_1 : FN Tryz.prog 39 1 1 := FN.mk' Tryz.underlying39 rfl rfl Tryz.isAgg3
theorem bd_39 : BD Tryz.prog 39 [(0, 1), (1, 1)] [.int .i64 0, .int .i64 0] := BD.mk' Tryz.underlying39 Tryz.zeroValue39 ⟨rfl, Tryz.sizeOf3, rfl, Tryz.sizeOf3, trivial⟩
theorem ag_41 : AG Tryz.prog 41 5 := ⟨Tryz.isAgg41, Tryz.sizeOf41⟩
theorem sz_41 : SZ Tryz.prog 41 5 := ⟨Tryz.sizeOf41⟩
theorem zv_41 : ZV Tryz.prog 41 (.agg #[.int .i64 0, .int .i64 0, .int .i64 0, .int .i64 0, .string ⟨#[]⟩]) := ⟨fun w => Tryz.zeroValue41 w⟩
theorem fa_41_0 : FA Tryz.prog 41 0 0 := FA.mk' Tryz.underlying41 rfl rfl Tryz.sizeOf37
theorem fg_41_0 : FG Tryz.prog 41 0 0 2 := FG.mk' Tryz.underlying41 rfl rfl Tryz.isAgg37 Tryz.sizeOf37
theorem fa_41_1 : FA Tryz.prog 41 1 2 := FA.mk' Tryz.underlying41 rfl rfl Tryz.sizeOf39
theorem fg_41_1 : FG Tryz.prog 41 1 2 2 := FG.mk' Tryz.underlying41 rfl rfl Tryz.isAgg39 Tryz.sizeOf39
theorem fa_41_2 : FA Tryz.prog 41 2 4 := FA.mk' Tryz.underlying41 rfl rfl Tryz.sizeOf9
theorem fn_41_2 : FN Tryz.prog 41 2 4 := FN.mk' Tryz.underlying41 rfl rfl Tryz.isAgg9
theorem bd_41 : BD Tryz.prog 41 [(0, 2), (2, 2), (4, 1)] [.int .i64 0, .int .i64 0, .int .i64 0, .int .i64 0, .string ⟨#[]⟩] := BD.mk' Tryz.underlying41 Tryz.zeroValue41 ⟨rfl, Tryz.sizeOf37, rfl, Tryz.sizeOf39, rfl, Tryz.sizeOf9, trivial⟩
theorem ag_43 : AG Tryz.prog 43 8 := ⟨Tryz.isAgg43, Tryz.sizeOf43⟩
theorem sz_43 : SZ Tryz.prog 43 8 := ⟨Tryz.sizeOf43⟩
theorem zv_43 : ZV Tryz.prog 43 (.agg #[.int .i64 0, .slice none 0 0, .slice none 0 0, .int .i64 0, .int .i64 0, .int .i64 0, .int .i64 0, .string ⟨#[]⟩]) := ⟨fun w => Tryz.zeroValue43 w⟩
theorem fa_43_0 : FA Tryz.prog 43 0 0 := FA.mk' Tryz.underlying43 rfl rfl Tryz.sizeOf3
theorem fn_43_0 : FN Tryz.prog 43 0 0 := FN.mk' Tryz.underlying43 rfl rfl Tryz.isAgg3
theorem fa_43_1 : FA Tryz.prog 43 1 1 := FA.mk' Tryz.underlying43 rfl rfl Tryz.sizeOf23
theorem fn_43_1 : FN Tryz.prog 43 1 1 := FN.mk' Tryz.underlying43 rfl rfl Tryz.isAgg23
theorem fa_43_2 : FA Tryz.prog 43 2 2 := FA.mk' Tryz.underlying43 rfl rfl Tryz.sizeOf23
theorem fn_43_2 : FN Tryz.prog 43 2 2 := FN.mk' Tryz.underlying43 rfl rfl Tryz.isAgg23
theorem fa_43_3 : FA Tryz.prog 43 3 3 := FA.mk' Tryz.underlying43 rfl rfl Tryz.sizeOf41
theorem fg_43_3 : FG Tryz.prog 43 3 3 5 := FG.mk' Tryz.underlying43 rfl rfl Tryz.isAgg41 Tryz.sizeOf41
theorem bd_43 : BD Tryz.prog 43 [(0, 1), (1, 1), (2, 1), (3, 5)] [.int .i64 0, .slice none 0 0, .slice none 0 0, .int .i64 0, .int .i64 0, .int .i64 0, .int .i64 0, .string ⟨#[]⟩] := BD.mk' Tryz.underlying43 Tryz.zeroValue43 ⟨rfl, Tryz.sizeOf3, rfl, Tryz.sizeOf23, rfl, Tryz.sizeOf23, rfl, Tryz.sizeOf41, trivial⟩
theorem na_60 : NA Tryz.prog 60 := ⟨Tryz.isAgg60⟩
theorem sz_60 : SZ Tryz.prog 60 1 := ⟨Tryz.sizeOf60⟩
theorem zv_60 : ZV Tryz.prog 60 (.map none) := ⟨fun w => Tryz.zeroValue60 w⟩
theorem ag_62 : AG Tryz.prog 62 2 := ⟨Tryz.isAgg62, Tryz.sizeOf62⟩
theorem sz_62 : SZ Tryz.prog 62 2 := ⟨Tryz.sizeOf62⟩
theorem zv_62 : ZV Tryz.prog 62 (.agg #[.int .i64 0, .map none]) := ⟨fun w => Tryz.zeroValue62 w⟩
theorem fa_62_0 : FA Tryz.prog 62 0 0 := FA.mk' Tryz.underlying62 rfl rfl Tryz.sizeOf3
theorem fn_62_0 : FN Tryz.prog 62 0 0 := FN.mk' Tryz.underlying62 rfl rfl Tryz.isAgg3
theorem fa_62_1 : FA Tryz.prog 62 1 1 := FA.mk' Tryz.underlying62 rfl rfl Tryz.sizeOf60
theorem fn_62_1 : FN Tryz.prog 62 1 1 := FN.mk' Tryz.underlying62 rfl rfl Tryz.isAgg60
theorem bd_62 : BD Tryz.prog 62 [(0, 1), (1, 1)] [.int .i64 0, .map none] := BD.mk' Tryz.underlying62 Tryz.zeroValue62 ⟨rfl, Tryz.sizeOf3, rfl, Tryz.sizeOf60, trivial⟩
theorem na_63 : NA Tryz.prog 63 := ⟨Tryz.isAgg63⟩
theorem sz_63 : SZ Tryz.prog 63 1 := ⟨Tryz.sizeOf63⟩
theorem zv_63 : ZV Tryz.prog 63 (.slice none 0 0) := ⟨fun w => Tryz.zeroValue63 w⟩
theorem et_63 : ET Tryz.prog 63 83 3 48 := ET.mk' Tryz.underlying63 Tryz.typeInfo83 rfl rfl rfl rfl
theorem se_63 : SE Tryz.prog 63 3 := ⟨⟨83, Tryz.underlying63, Tryz.sizeOf83⟩⟩
theorem ag_65 : AG Tryz.prog 65 4 := ⟨Tryz.isAgg65, Tryz.sizeOf65⟩
theorem sz_65 : SZ Tryz.prog 65 4 := ⟨Tryz.sizeOf65⟩
theorem zv_65 : ZV Tryz.prog 65 (.agg #[.pointer none, .int .i64 0, .int .i64 0, .slice none 0 0]) := ⟨fun w => Tryz.zeroValue65 w⟩
theorem fa_65_0 : FA Tryz.prog 65 0 0 := FA.mk' Tryz.underlying65 rfl rfl Tryz.sizeOf26
theorem fn_65_0 : FN Tryz.prog 65 0 0 := FN.mk' Tryz.underlying65 rfl rfl Tryz.isAgg26
theorem fa_65_1 : FA Tryz.prog 65 1 1 := FA.mk' Tryz.underlying65 rfl rfl Tryz.sizeOf3
theorem fn_65_1 : FN Tryz.prog 65 1 1 := FN.mk' Tryz.underlying65 rfl rfl Tryz.isAgg3
theorem fa_65_2 : FA Tryz.prog 65 2 2 := FA.mk' Tryz.underlying65 rfl rfl Tryz.sizeOf3
theorem fn_65_2 : FN Tryz.prog 65 2 2 := FN.mk' Tryz.underlying65 rfl rfl Tryz.isAgg3
theorem fa_65_3 : FA Tryz.prog 65 3 3 := FA.mk' Tryz.underlying65 rfl rfl Tryz.sizeOf63
theorem fn_65_3 : FN Tryz.prog 65 3 3 := FN.mk' Tryz.underlying65 rfl rfl Tryz.isAgg63
theorem bd_65 : BD Tryz.prog 65 [(0, 1), (1, 1), (2, 1), (3, 1)] [.pointer none, .int .i64 0, .int .i64 0, .slice none 0 0] := BD.mk' Tryz.underlying65 Tryz.zeroValue65 ⟨rfl, Tryz.sizeOf26, rfl, Tryz.sizeOf3, rfl, Tryz.sizeOf3, rfl, Tryz.sizeOf63, trivial⟩
theorem na_66 : NA Tryz.prog 66 := ⟨Tryz.isAgg66⟩
theorem sz_66 : SZ Tryz.prog 66 1 := ⟨Tryz.sizeOf66⟩
theorem zv_66 : ZV Tryz.prog 66 (.slice none 0 0) := ⟨fun w => Tryz.zeroValue66 w⟩
theorem et_66 : ET Tryz.prog 66 9 1 16 := ET.mk' Tryz.underlying66 Tryz.typeInfo9 rfl rfl rfl rfl
theorem se_66 : SE Tryz.prog 66 1 := ⟨⟨9, Tryz.underlying66, Tryz.sizeOf9⟩⟩
theorem na_70 : NA Tryz.prog 70 := ⟨Tryz.isAgg70⟩
theorem sz_70 : SZ Tryz.prog 70 1 := ⟨Tryz.sizeOf70⟩
theorem zv_70 : ZV Tryz.prog 70 (.nilIface) := ⟨fun w => Tryz.zeroValue70 w⟩
theorem na_75 : NA Tryz.prog 75 := ⟨Tryz.isAgg75⟩
theorem sz_75 : SZ Tryz.prog 75 1 := ⟨Tryz.sizeOf75⟩
theorem zv_75 : ZV Tryz.prog 75 (.slice none 0 0) := ⟨fun w => Tryz.zeroValue75 w⟩
theorem et_75 : ET Tryz.prog 75 5 1 1 := ET.mk' Tryz.underlying75 Tryz.typeInfo5 rfl rfl rfl rfl
theorem se_75 : SE Tryz.prog 75 1 := ⟨⟨5, Tryz.underlying75, Tryz.sizeOf5⟩⟩
theorem ag_83 : AG Tryz.prog 83 3 := ⟨Tryz.isAgg83, Tryz.sizeOf83⟩
theorem sz_83 : SZ Tryz.prog 83 3 := ⟨Tryz.sizeOf83⟩
theorem zv_83 : ZV Tryz.prog 83 (.agg #[.string ⟨#[]⟩, .int .i64 0, .slice none 0 0]) := ⟨fun w => Tryz.zeroValue83 w⟩
theorem fa_83_0 : FA Tryz.prog 83 0 0 := FA.mk' Tryz.underlying83 rfl rfl Tryz.sizeOf9
theorem fn_83_0 : FN Tryz.prog 83 0 0 := FN.mk' Tryz.underlying83 rfl rfl Tryz.isAgg9
theorem fa_83_1 : FA Tryz.prog 83 1 1 := FA.mk' Tryz.underlying83 rfl rfl Tryz.sizeOf3
theorem fn_83_1 : FN Tryz.prog 83 1 1 := FN.mk' Tryz.underlying83 rfl rfl Tryz.isAgg3
theorem fa_83_2 : FA Tryz.prog 83 2 2 := FA.mk' Tryz.underlying83 rfl rfl Tryz.sizeOf23
theorem fn_83_2 : FN Tryz.prog 83 2 2 := FN.mk' Tryz.underlying83 rfl rfl Tryz.isAgg23
theorem bd_83 : BD Tryz.prog 83 [(0, 1), (1, 1), (2, 1)] [.string ⟨#[]⟩, .int .i64 0, .slice none 0 0] := BD.mk' Tryz.underlying83 Tryz.zeroValue83 ⟨rfl, Tryz.sizeOf9, rfl, Tryz.sizeOf3, rfl, Tryz.sizeOf23, trivial⟩
theorem na_89 : NA Tryz.prog 89 := ⟨Tryz.isAgg89⟩
theorem sz_89 : SZ Tryz.prog 89 1 := ⟨Tryz.sizeOf89⟩
theorem zv_89 : ZV Tryz.prog 89 (.int .u64 0) := ⟨fun w => Tryz.zeroValue89 w⟩
theorem ag_91 : AG Tryz.prog 91 2 := ⟨Tryz.isAgg91, Tryz.sizeOf91⟩
theorem sz_91 : SZ Tryz.prog 91 2 := ⟨Tryz.sizeOf91⟩
theorem zv_91 : ZV Tryz.prog 91 (.agg #[.slice none 0 0, .int .i64 0]) := ⟨fun w => Tryz.zeroValue91 w⟩
theorem fa_91_0 : FA Tryz.prog 91 0 0 := FA.mk' Tryz.underlying91 rfl rfl Tryz.sizeOf75
theorem fn_91_0 : FN Tryz.prog 91 0 0 := FN.mk' Tryz.underlying91 rfl rfl Tryz.isAgg75
theorem fa_91_1 : FA Tryz.prog 91 1 1 := FA.mk' Tryz.underlying91 rfl rfl Tryz.sizeOf3
theorem fn_91_1 : FN Tryz.prog 91 1 1 := FN.mk' Tryz.underlying91 rfl rfl Tryz.isAgg3
theorem bd_91 : BD Tryz.prog 91 [(0, 1), (1, 1)] [.slice none 0 0, .int .i64 0] := BD.mk' Tryz.underlying91 Tryz.zeroValue91 ⟨rfl, Tryz.sizeOf75, rfl, Tryz.sizeOf3, trivial⟩
theorem na_92 : NA Tryz.prog 92 := ⟨Tryz.isAgg92⟩
theorem sz_92 : SZ Tryz.prog 92 1 := ⟨Tryz.sizeOf92⟩
theorem zv_92 : ZV Tryz.prog 92 (.pointer none) := ⟨fun w => Tryz.zeroValue92 w⟩
theorem na_97 : NA Tryz.prog 97 := ⟨Tryz.isAgg97⟩
theorem sz_97 : SZ Tryz.prog 97 1 := ⟨Tryz.sizeOf97⟩
theorem zv_97 : ZV Tryz.prog 97 (.nilFunc) := ⟨fun w => Tryz.zeroValue97 w⟩
theorem na_115 : NA Tryz.prog 115 := ⟨Tryz.isAgg115⟩
theorem sz_115 : SZ Tryz.prog 115 1 := ⟨Tryz.sizeOf115⟩
theorem zv_115 : ZV Tryz.prog 115 (.slice none 0 0) := ⟨fun w => Tryz.zeroValue115 w⟩
theorem et_115 : ET Tryz.prog 115 75 1 24 := ET.mk' Tryz.underlying115 Tryz.typeInfo75 rfl rfl rfl rfl
theorem se_115 : SE Tryz.prog 115 1 := ⟨⟨75, Tryz.underlying115, Tryz.sizeOf75⟩⟩
theorem na_118 : NA Tryz.prog 118 := ⟨Tryz.isAgg118⟩
theorem sz_118 : SZ Tryz.prog 118 1 := ⟨Tryz.sizeOf118⟩
theorem zv_118 : ZV Tryz.prog 118 (.nilFunc) := ⟨fun w => Tryz.zeroValue118 w⟩
theorem na_120 : NA Tryz.prog 120 := ⟨Tryz.isAgg120⟩
theorem sz_120 : SZ Tryz.prog 120 1 := ⟨Tryz.sizeOf120⟩
theorem zv_120 : ZV Tryz.prog 120 (.int .i64 0) := ⟨fun w => Tryz.zeroValue120 w⟩
theorem na_123 : NA Tryz.prog 123 := ⟨Tryz.isAgg123⟩
theorem sz_123 : SZ Tryz.prog 123 1 := ⟨Tryz.sizeOf123⟩
theorem zv_123 : ZV Tryz.prog 123 (.pointer none) := ⟨fun w => Tryz.zeroValue123 w⟩
theorem na_129 : NA Tryz.prog 129 := ⟨Tryz.isAgg129⟩
theorem sz_129 : SZ Tryz.prog 129 1 := ⟨Tryz.sizeOf129⟩
theorem zv_129 : ZV Tryz.prog 129 (.pointer none) := ⟨fun w => Tryz.zeroValue129 w⟩
theorem ag_131 : AG Tryz.prog 131 2 := ⟨Tryz.isAgg131, Tryz.sizeOf131⟩
theorem sz_131 : SZ Tryz.prog 131 2 := ⟨Tryz.sizeOf131⟩
theorem zv_131 : ZV Tryz.prog 131 (.agg #[.slice none 0 0, .bool false]) := ⟨fun w => Tryz.zeroValue131 w⟩
theorem fa_131_0 : FA Tryz.prog 131 0 0 := FA.mk' Tryz.underlying131 rfl rfl Tryz.sizeOf75
theorem fn_131_0 : FN Tryz.prog 131 0 0 := FN.mk' Tryz.underlying131 rfl rfl Tryz.isAgg75
theorem fa_131_1 : FA Tryz.prog 131 1 1 := FA.mk' Tryz.underlying131 rfl rfl Tryz.sizeOf4
theorem fn_131_1 : FN Tryz.prog 131 1 1 := FN.mk' Tryz.underlying131 rfl rfl Tryz.isAgg4
theorem bd_131 : BD Tryz.prog 131 [(0, 1), (1, 1)] [.slice none 0 0, .bool false] := BD.mk' Tryz.underlying131 Tryz.zeroValue131 ⟨rfl, Tryz.sizeOf75, rfl, Tryz.sizeOf4, trivial⟩
theorem na_136 : NA Tryz.prog 136 := ⟨Tryz.isAgg136⟩
theorem sz_136 : SZ Tryz.prog 136 1 := ⟨Tryz.sizeOf136⟩
theorem zv_136 : ZV Tryz.prog 136 (.pointer none) := ⟨fun w => Tryz.zeroValue136 w⟩
theorem ag_138 : AG Tryz.prog 138 2 := ⟨Tryz.isAgg138, Tryz.sizeOf138⟩
theorem sz_138 : SZ Tryz.prog 138 2 := ⟨Tryz.sizeOf138⟩
theorem zv_138 : ZV Tryz.prog 138 (.agg #[.pointer none, .slice none 0 0]) := ⟨fun w => Tryz.zeroValue138 w⟩
theorem fa_138_0 : FA Tryz.prog 138 0 0 := FA.mk' Tryz.underlying138 rfl rfl Tryz.sizeOf136
theorem fn_138_0 : FN Tryz.prog 138 0 0 := FN.mk' Tryz.underlying138 rfl rfl Tryz.isAgg136
theorem fa_138_1 : FA Tryz.prog 138 1 1 := FA.mk' Tryz.underlying138 rfl rfl Tryz.sizeOf75
theorem fn_138_1 : FN Tryz.prog 138 1 1 := FN.mk' Tryz.underlying138 rfl rfl Tryz.isAgg75
theorem bd_138 : BD Tryz.prog 138 [(0, 1), (1, 1)] [.pointer none, .slice none 0 0] := BD.mk' Tryz.underlying138 Tryz.zeroValue138 ⟨rfl, Tryz.sizeOf136, rfl, Tryz.sizeOf75, trivial⟩
theorem na_140 : NA Tryz.prog 140 := ⟨Tryz.isAgg140⟩
theorem sz_140 : SZ Tryz.prog 140 1 := ⟨Tryz.sizeOf140⟩
theorem zv_140 : ZV Tryz.prog 140 (.nilFunc) := ⟨fun w => Tryz.zeroValue140 w⟩
theorem na_146 : NA Tryz.prog 146 := ⟨Tryz.isAgg146⟩
theorem sz_146 : SZ Tryz.prog 146 1 := ⟨Tryz.sizeOf146⟩
theorem zv_146 : ZV Tryz.prog 146 (.int .u64 0) := ⟨fun w => Tryz.zeroValue146 w⟩
theorem ag_151 : AG Tryz.prog 151 3 := ⟨Tryz.isAgg151, Tryz.sizeOf151⟩
theorem sz_151 : SZ Tryz.prog 151 3 := ⟨Tryz.sizeOf151⟩
theorem zv_151 : ZV Tryz.prog 151 (.agg #[.string ⟨#[]⟩, .string ⟨#[]⟩, .nilIface]) := ⟨fun w => Tryz.zeroValue151 w⟩
theorem fa_151_0 : FA Tryz.prog 151 0 0 := FA.mk' Tryz.underlying151 rfl rfl Tryz.sizeOf9
theorem fn_151_0 : FN Tryz.prog 151 0 0 := FN.mk' Tryz.underlying151 rfl rfl Tryz.isAgg9
theorem fa_151_1 : FA Tryz.prog 151 1 1 := FA.mk' Tryz.underlying151 rfl rfl Tryz.sizeOf9
theorem fn_151_1 : FN Tryz.prog 151 1 1 := FN.mk' Tryz.underlying151 rfl rfl Tryz.isAgg9
theorem fa_151_2 : FA Tryz.prog 151 2 2 := FA.mk' Tryz.underlying151 rfl rfl Tryz.sizeOf70
theorem fn_151_2 : FN Tryz.prog 151 2 2 := FN.mk' Tryz.underlying151 rfl rfl Tryz.isAgg70
theorem bd_151 : BD Tryz.prog 151 [(0, 1), (1, 1), (2, 1)] [.string ⟨#[]⟩, .string ⟨#[]⟩, .nilIface] := BD.mk' Tryz.underlying151 Tryz.zeroValue151 ⟨rfl, Tryz.sizeOf9, rfl, Tryz.sizeOf9, rfl, Tryz.sizeOf70, trivial⟩
theorem na_158 : NA Tryz.prog 158 := ⟨Tryz.isAgg158⟩
theorem sz_158 : SZ Tryz.prog 158 1 := ⟨Tryz.sizeOf158⟩
theorem zv_158 : ZV Tryz.prog 158 (.int .u32 0) := ⟨fun w => Tryz.zeroValue158 w⟩
theorem na_163 : NA Tryz.prog 163 := ⟨Tryz.isAgg163⟩
theorem sz_163 : SZ Tryz.prog 163 1 := ⟨Tryz.sizeOf163⟩
theorem zv_163 : ZV Tryz.prog 163 (.pointer none) := ⟨fun w => Tryz.zeroValue163 w⟩
theorem ag_167 : AG Tryz.prog 167 256 := ⟨Tryz.isAgg167, Tryz.sizeOf167⟩
theorem sz_167 : SZ Tryz.prog 167 256 := ⟨Tryz.sizeOf167⟩
theorem ag_169 : AG Tryz.prog 169 2 := ⟨Tryz.isAgg169, Tryz.sizeOf169⟩
theorem sz_169 : SZ Tryz.prog 169 2 := ⟨Tryz.sizeOf169⟩
theorem zv_169 : ZV Tryz.prog 169 (.agg #[.int .u8 0, .int .u8 0]) := ⟨fun w => Tryz.zeroValue169 w⟩
theorem fa_169_0 : FA Tryz.prog 169 0 0 := FA.mk' Tryz.underlying169 rfl rfl Tryz.sizeOf5
theorem fn_169_0 : FN Tryz.prog 169 0 0 := FN.mk' Tryz.underlying169 rfl rfl Tryz.isAgg5
theorem fa_169_1 : FA Tryz.prog 169 1 1 := FA.mk' Tryz.underlying169 rfl rfl Tryz.sizeOf5
theorem fn_169_1 : FN Tryz.prog 169 1 1 := FN.mk' Tryz.underlying169 rfl rfl Tryz.isAgg5
theorem bd_169 : BD Tryz.prog 169 [(0, 1), (1, 1)] [.int .u8 0, .int .u8 0] := BD.mk' Tryz.underlying169 Tryz.zeroValue169 ⟨rfl, Tryz.sizeOf5, rfl, Tryz.sizeOf5, trivial⟩
theorem ag_170 : AG Tryz.prog 170 32 := ⟨Tryz.isAgg170, Tryz.sizeOf170⟩
theorem sz_170 : SZ Tryz.prog 170 32 := ⟨Tryz.sizeOf170⟩
theorem zv_170 : ZV Tryz.prog 170 (.agg #[.int .u8 0, .int .u8 0, .int .u8 0, .int .u8 0, .int .u8 0, .int .u8 0, .int .u8 0, .int .u8 0, .int .u8 0, .int .u8 0, .int .u8 0, .int .u8 0, .int .u8 0, .int .u8 0, .int .u8 0, .int .u8 0, .int .u8 0, .int .u8 0, .int .u8 0, .int .u8 0, .int .u8 0, .int .u8 0, .int .u8 0, .int .u8 0, .int .u8 0, .int .u8 0, .int .u8 0, .int .u8 0, .int .u8 0, .int .u8 0, .int .u8 0, .int .u8 0]) := ⟨fun w => Tryz.zeroValue170 w⟩
theorem na_172 : NA Tryz.prog 172 := ⟨Tryz.isAgg172⟩
theorem sz_172 : SZ Tryz.prog 172 1 := ⟨Tryz.sizeOf172⟩
theorem zv_172 : ZV Tryz.prog 172 (.int .i64 0) := ⟨fun w => Tryz.zeroValue172 w⟩
theorem na_182 : NA Tryz.prog 182 := ⟨Tryz.isAgg182⟩
theorem sz_182 : SZ Tryz.prog 182 1 := ⟨Tryz.sizeOf182⟩
theorem zv_182 : ZV Tryz.prog 182 (.pointer none) := ⟨fun w => Tryz.zeroValue182 w⟩
theorem ag_184 : AG Tryz.prog 184 1 := ⟨Tryz.isAgg184, Tryz.sizeOf184⟩
theorem sz_184 : SZ Tryz.prog 184 1 := ⟨Tryz.sizeOf184⟩
theorem zv_184 : ZV Tryz.prog 184 (.agg #[.string ⟨#[]⟩]) := ⟨fun w => Tryz.zeroValue184 w⟩
theorem fa_184_0 : FA Tryz.prog 184 0 0 := FA.mk' Tryz.underlying184 rfl rfl Tryz.sizeOf9
theorem fn_184_0 : FN Tryz.prog 184 0 0 := FN.mk' Tryz.underlying184 rfl rfl Tryz.isAgg9
theorem bd_184 : BD Tryz.prog 184 [(0, 1)] [.string ⟨#[]⟩] := BD.mk' Tryz.underlying184 Tryz.zeroValue184 ⟨rfl, Tryz.sizeOf9, trivial⟩
theorem ag_186 : AG Tryz.prog 186 24 := ⟨Tryz.isAgg186, Tryz.sizeOf186⟩
theorem sz_186 : SZ Tryz.prog 186 24 := ⟨Tryz.sizeOf186⟩
theorem zv_186 : ZV Tryz.prog 186 (.agg #[.int .u8 0, .int .u8 0, .int .u8 0, .int .u8 0, .int .u8 0, .int .u8 0, .int .u8 0, .int .u8 0, .int .u8 0, .int .u8 0, .int .u8 0, .int .u8 0, .int .u8 0, .int .u8 0, .int .u8 0, .int .u8 0, .int .u8 0, .int .u8 0, .int .u8 0, .int .u8 0, .int .u8 0, .int .u8 0, .int .u8 0, .int .u8 0]) := ⟨fun w => Tryz.zeroValue186 w⟩
theorem na_190 : NA Tryz.prog 190 := ⟨Tryz.isAgg190⟩
theorem sz_190 : SZ Tryz.prog 190 1 := ⟨Tryz.sizeOf190⟩
theorem zv_190 : ZV Tryz.prog 190 (.pointer none) := ⟨fun w => Tryz.zeroValue190 w⟩
theorem na_197 : NA Tryz.prog 197 := ⟨Tryz.isAgg197⟩
theorem sz_197 : SZ Tryz.prog 197 1 := ⟨Tryz.sizeOf197⟩
theorem zv_197 : ZV Tryz.prog 197 (.int .u64 0) := ⟨fun w => Tryz.zeroValue197 w⟩
theorem na_201 : NA Tryz.prog 201 := ⟨Tryz.isAgg201⟩
theorem sz_201 : SZ Tryz.prog 201 1 := ⟨Tryz.sizeOf201⟩
theorem zv_201 : ZV Tryz.prog 201 (.pointer none) := ⟨fun w => Tryz.zeroValue201 w⟩
theorem ag_204 : AG Tryz.prog 204 20 := ⟨Tryz.isAgg204, Tryz.sizeOf204⟩
theorem sz_204 : SZ Tryz.prog 204 20 := ⟨Tryz.sizeOf204⟩
theorem zv_204 : ZV Tryz.prog 204 (.agg #[.int .u64 0, .int .u64 0, .int .u64 0, .int .u64 0, .int .u64 0, .int .u64 0, .int .u64 0, .int .u64 0, .int .u64 0, .int .u64 0, .int .u64 0, .int .u64 0, .int .u64 0, .int .u64 0, .int .u64 0, .int .u64 0, .int .u64 0, .int .u64 0, .int .u64 0, .int .u64 0]) := ⟨fun w => Tryz.zeroValue204 w⟩
theorem ag_205 : AG Tryz.prog 205 65 := ⟨Tryz.isAgg205, Tryz.sizeOf205⟩
theorem sz_205 : SZ Tryz.prog 205 65 := ⟨Tryz.sizeOf205⟩
theorem ag_209 : AG Tryz.prog 209 32 := ⟨Tryz.isAgg209, Tryz.sizeOf209⟩
theorem sz_209 : SZ Tryz.prog 209 32 := ⟨Tryz.sizeOf209⟩
theorem zv_209 : ZV Tryz.prog 209 (.agg #[.int .u8 0, .int .u8 0, .int .u8 0, .int .u8 0, .int .u8 0, .int .u8 0, .int .u8 0, .int .u8 0, .int .u8 0, .int .u8 0, .int .u8 0, .int .u8 0, .int .u8 0, .int .u8 0, .int .u8 0, .int .u8 0, .int .u8 0, .int .u8 0, .int .u8 0, .int .u8 0, .int .u8 0, .int .u8 0, .int .u8 0, .int .u8 0, .int .u8 0, .int .u8 0, .int .u8 0, .int .u8 0, .int .u8 0, .int .u8 0, .int .u8 0, .int .u8 0]) := ⟨fun w => Tryz.zeroValue209 w⟩
theorem ag_210 : AG Tryz.prog 210 64 := ⟨Tryz.isAgg210, Tryz.sizeOf210⟩
theorem sz_210 : SZ Tryz.prog 210 64 := ⟨Tryz.sizeOf210⟩
theorem mixed : Tryz.prog.follows .mixedOrders = true := by kernel_rfl
end Go.Proofs.YtjaafkakeccniaaGreatDoor
