/- Facts on the program's types, printed by wip/gen/gen.py. -/
import Derived.Test.YtmbikfojljnnkaaGreatDoorProg
import Derived.Test.YtmbikfojljnnkaaGreatDoorRg
import Derived.Test.YtmbikfojljnnkaaGreatDoorMore
namespace Go.Proofs.YtmbikfojljnnkaaGreatDoor
open Go Go.Sl
set_option maxRecDepth 100000
theorem na_3 : NA Tryz.prog 3 := ⟨Tryz.isAgg3⟩
theorem sz_3 : SZ Tryz.prog 3 1 := ⟨Tryz.sizeOf3⟩
theorem zv_3 : ZV Tryz.prog 3 (.int .i64 0) := ⟨fun w => Tryz.zeroValue3 w⟩
theorem na_4 : NA Tryz.prog 4 := ⟨Tryz.isAgg4⟩
theorem sz_4 : SZ Tryz.prog 4 1 := ⟨Tryz.sizeOf4⟩
theorem zv_4 : ZV Tryz.prog 4 (.bool false) := ⟨fun w => Tryz.zeroValue4 w⟩
theorem na_5 : NA Tryz.prog 5 := ⟨Tryz.isAgg5⟩
theorem sz_5 : SZ Tryz.prog 5 1 := ⟨Tryz.sizeOf5⟩
theorem zv_5 : ZV Tryz.prog 5 (.int .u8 0) := ⟨fun w => Tryz.zeroValue5 w⟩
theorem na_9 : NA Tryz.prog 9 := ⟨Tryz.isAgg9⟩
theorem sz_9 : SZ Tryz.prog 9 1 := ⟨Tryz.sizeOf9⟩
theorem zv_9 : ZV Tryz.prog 9 (.string ⟨#[]⟩) := ⟨fun w => Tryz.zeroValue9 w⟩
theorem na_12 : NA Tryz.prog 12 := ⟨Tryz.isAgg12⟩
theorem sz_12 : SZ Tryz.prog 12 1 := ⟨Tryz.sizeOf12⟩
theorem zv_12 : ZV Tryz.prog 12 (.int .u64 0) := ⟨fun w => Tryz.zeroValue12 w⟩
theorem na_21 : NA Tryz.prog 21 := ⟨Tryz.isAgg21⟩
theorem sz_21 : SZ Tryz.prog 21 1 := ⟨Tryz.sizeOf21⟩
theorem zv_21 : ZV Tryz.prog 21 (.int .i32 0) := ⟨fun w => Tryz.zeroValue21 w⟩
theorem na_22 : NA Tryz.prog 22 := ⟨Tryz.isAgg22⟩
theorem sz_22 : SZ Tryz.prog 22 1 := ⟨Tryz.sizeOf22⟩
theorem zv_22 : ZV Tryz.prog 22 (.slice none 0 0) := ⟨fun w => Tryz.zeroValue22 w⟩
theorem et_22 : ET Tryz.prog 22 37 6 56 := ET.mk' Tryz.underlying22 Tryz.typeInfo37 rfl rfl rfl rfl
theorem se_22 : SE Tryz.prog 22 6 := ⟨⟨37, Tryz.underlying22, Tryz.sizeOf37⟩⟩
theorem na_25 : NA Tryz.prog 25 := ⟨Tryz.isAgg25⟩
theorem sz_25 : SZ Tryz.prog 25 1 := ⟨Tryz.sizeOf25⟩
theorem zv_25 : ZV Tryz.prog 25 (.pointer none) := ⟨fun w => Tryz.zeroValue25 w⟩
theorem na_27 : NA Tryz.prog 27 := ⟨Tryz.isAgg27⟩
theorem sz_27 : SZ Tryz.prog 27 1 := ⟨Tryz.sizeOf27⟩
theorem zv_27 : ZV Tryz.prog 27 (.slice none 0 0) := ⟨fun w => Tryz.zeroValue27 w⟩
theorem et_27 : ET Tryz.prog 27 35 5 48 := ET.mk' Tryz.underlying27 Tryz.typeInfo35 rfl rfl rfl rfl
theorem se_27 : SE Tryz.prog 27 5 := ⟨⟨35, Tryz.underlying27, Tryz.sizeOf35⟩⟩
theorem ag_31 : AG Tryz.prog 31 2 := ⟨Tryz.isAgg31, Tryz.sizeOf31⟩
theorem sz_31 : SZ Tryz.prog 31 2 := ⟨Tryz.sizeOf31⟩
theorem zv_31 : ZV Tryz.prog 31 (.agg #[.int .i64 0, .int .i64 0]) := ⟨fun w => Tryz.zeroValue31 w⟩
theorem fa_31_0 : FA Tryz.prog 31 0 0 := FA.mk' Tryz.underlying31 rfl rfl Tryz.sizeOf3
theorem fn_31_0 : FN Tryz.prog 31 0 0 := FN.mk' Tryz.underlying31 rfl rfl Tryz.isAgg3
theorem fa_31_1 : FA Tryz.prog 31 1 1 := FA.mk' Tryz.underlying31 rfl rfl Tryz.sizeOf3
theorem fn_31_1 : FN Tryz.prog 31 1 1 := FN.mk' Tryz.underlying31 rfl rfl Tryz.isAgg3
theorem bd_31 : BD Tryz.prog 31 [(0, 1), (1, 1)] [.int .i64 0, .int .i64 0] := BD.mk' Tryz.underlying31 Tryz.zeroValue31 ⟨rfl, Tryz.sizeOf3, rfl, Tryz.sizeOf3, trivial⟩
theorem ag_33 : AG Tryz.prog 33 2 := ⟨Tryz.isAgg33, Tryz.sizeOf33⟩
theorem sz_33 : SZ Tryz.prog 33 2 := ⟨Tryz.sizeOf33⟩
theorem zv_33 : ZV Tryz.prog 33 (.agg #[.int .i64 0, .int .i64 0]) := ⟨fun w => Tryz.zeroValue33 w⟩
theorem fa_33_0 : FA Tryz.prog 33 0 0 := FA.mk' Tryz.underlying33 rfl rfl Tryz.sizeOf3
theorem fn_33_0 : FN Tryz.prog 33 0 0 := FN.mk' Tryz.underlying33 rfl rfl Tryz.isAgg3
theorem fa_33_1 : FA Tryz.prog 33 1 1 := FA.mk' Tryz.underlying33 rfl rfl Tryz.sizeOf3
theorem fn_33_1 : FN Tryz.prog 33 1 1 := FN.mk' Tryz.underlying33 rfl rfl Tryz.isAgg3
theorem bd_33 : BD Tryz.prog 33 [(0, 1), (1, 1)] [.int .i64 0, .int .i64 0] := BD.mk' Tryz.underlying33 Tryz.zeroValue33 ⟨rfl, Tryz.sizeOf3, rfl, Tryz.sizeOf3, trivial⟩
theorem ag_35 : AG Tryz.prog 35 5 := ⟨Tryz.isAgg35, Tryz.sizeOf35⟩
theorem sz_35 : SZ Tryz.prog 35 5 := ⟨Tryz.sizeOf35⟩
theorem zv_35 : ZV Tryz.prog 35 (.agg #[.int .i64 0, .int .i64 0, .int .i64 0, .int .i64 0, .string ⟨#[]⟩]) := ⟨fun w => Tryz.zeroValue35 w⟩
theorem fa_35_0 : FA Tryz.prog 35 0 0 := FA.mk' Tryz.underlying35 rfl rfl Tryz.sizeOf31
theorem fg_35_0 : FG Tryz.prog 35 0 0 2 := FG.mk' Tryz.underlying35 rfl rfl Tryz.isAgg31 Tryz.sizeOf31
theorem fa_35_1 : FA Tryz.prog 35 1 2 := FA.mk' Tryz.underlying35 rfl rfl Tryz.sizeOf33
theorem fg_35_1 : FG Tryz.prog 35 1 2 2 := FG.mk' Tryz.underlying35 rfl rfl Tryz.isAgg33 Tryz.sizeOf33
theorem fa_35_2 : FA Tryz.prog 35 2 4 := FA.mk' Tryz.underlying35 rfl rfl Tryz.sizeOf9
theorem fn_35_2 : FN Tryz.prog 35 2 4 := FN.mk' Tryz.underlying35 rfl rfl Tryz.isAgg9
theorem bd_35 : BD Tryz.prog 35 [(0, 2), (2, 2), (4, 1)] [.int .i64 0, .int .i64 0, .int .i64 0, .int .i64 0, .string ⟨#[]⟩] := BD.mk' Tryz.underlying35 Tryz.zeroValue35 ⟨rfl, Tryz.sizeOf31, rfl, Tryz.sizeOf33, rfl, Tryz.sizeOf9, trivial⟩
theorem ag_37 : AG Tryz.prog 37 6 := ⟨Tryz.isAgg37, Tryz.sizeOf37⟩
theorem sz_37 : SZ Tryz.prog 37 6 := ⟨Tryz.sizeOf37⟩
theorem zv_37 : ZV Tryz.prog 37 (.agg #[.bool false, .int .i64 0, .int .i64 0, .int .i64 0, .int .i64 0, .string ⟨#[]⟩]) := ⟨fun w => Tryz.zeroValue37 w⟩
theorem fa_37_0 : FA Tryz.prog 37 0 0 := FA.mk' Tryz.underlying37 rfl rfl Tryz.sizeOf4
theorem fn_37_0 : FN Tryz.prog 37 0 0 := FN.mk' Tryz.underlying37 rfl rfl Tryz.isAgg4
theorem fa_37_1 : FA Tryz.prog 37 1 1 := FA.mk' Tryz.underlying37 rfl rfl Tryz.sizeOf35
theorem fg_37_1 : FG Tryz.prog 37 1 1 5 := FG.mk' Tryz.underlying37 rfl rfl Tryz.isAgg35 Tryz.sizeOf35
theorem bd_37 : BD Tryz.prog 37 [(0, 1), (1, 5)] [.bool false, .int .i64 0, .int .i64 0, .int .i64 0, .int .i64 0, .string ⟨#[]⟩] := BD.mk' Tryz.underlying37 Tryz.zeroValue37 ⟨rfl, Tryz.sizeOf4, rfl, Tryz.sizeOf35, trivial⟩
theorem na_40 : NA Tryz.prog 40 := ⟨Tryz.isAgg40⟩
theorem sz_40 : SZ Tryz.prog 40 1 := ⟨Tryz.sizeOf40⟩
theorem zv_40 : ZV Tryz.prog 40 (.int .i64 0) := ⟨fun w => Tryz.zeroValue40 w⟩
theorem na_42 : NA Tryz.prog 42 := ⟨Tryz.isAgg42⟩
theorem sz_42 : SZ Tryz.prog 42 1 := ⟨Tryz.sizeOf42⟩
theorem zv_42 : ZV Tryz.prog 42 (.slice none 0 0) := ⟨fun w => Tryz.zeroValue42 w⟩
theorem et_42 : ET Tryz.prog 42 66 3 40 := ET.mk' Tryz.underlying42 Tryz.typeInfo66 rfl rfl rfl rfl
theorem se_42 : SE Tryz.prog 42 3 := ⟨⟨66, Tryz.underlying42, Tryz.sizeOf66⟩⟩
theorem na_44 : NA Tryz.prog 44 := ⟨Tryz.isAgg44⟩
theorem sz_44 : SZ Tryz.prog 44 1 := ⟨Tryz.sizeOf44⟩
theorem zv_44 : ZV Tryz.prog 44 (.nilFunc) := ⟨fun w => Tryz.zeroValue44 w⟩
theorem na_47 : NA Tryz.prog 47 := ⟨Tryz.isAgg47⟩
theorem sz_47 : SZ Tryz.prog 47 1 := ⟨Tryz.sizeOf47⟩
theorem zv_47 : ZV Tryz.prog 47 (.slice none 0 0) := ⟨fun w => Tryz.zeroValue47 w⟩
theorem et_47 : ET Tryz.prog 47 31 2 16 := ET.mk' Tryz.underlying47 Tryz.typeInfo31 rfl rfl rfl rfl
theorem se_47 : SE Tryz.prog 47 2 := ⟨⟨31, Tryz.underlying47, Tryz.sizeOf31⟩⟩
theorem na_49 : NA Tryz.prog 49 := ⟨Tryz.isAgg49⟩
theorem sz_49 : SZ Tryz.prog 49 1 := ⟨Tryz.sizeOf49⟩
theorem zv_49 : ZV Tryz.prog 49 (.slice none 0 0) := ⟨fun w => Tryz.zeroValue49 w⟩
theorem et_49 : ET Tryz.prog 49 52 2 24 := ET.mk' Tryz.underlying49 Tryz.typeInfo52 rfl rfl rfl rfl
theorem se_49 : SE Tryz.prog 49 2 := ⟨⟨52, Tryz.underlying49, Tryz.sizeOf52⟩⟩
theorem ag_52 : AG Tryz.prog 52 2 := ⟨Tryz.isAgg52, Tryz.sizeOf52⟩
theorem sz_52 : SZ Tryz.prog 52 2 := ⟨Tryz.sizeOf52⟩
theorem zv_52 : ZV Tryz.prog 52 (.agg #[.string ⟨#[]⟩, .int .i64 0]) := ⟨fun w => Tryz.zeroValue52 w⟩
theorem fa_52_0 : FA Tryz.prog 52 0 0 := FA.mk' Tryz.underlying52 rfl rfl Tryz.sizeOf9
theorem fn_52_0 : FN Tryz.prog 52 0 0 := FN.mk' Tryz.underlying52 rfl rfl Tryz.isAgg9
theorem fa_52_1 : FA Tryz.prog 52 1 1 := FA.mk' Tryz.underlying52 rfl rfl Tryz.sizeOf3
theorem fn_52_1 : FN Tryz.prog 52 1 1 := FN.mk' Tryz.underlying52 rfl rfl Tryz.isAgg3
theorem bd_52 : BD Tryz.prog 52 [(0, 1), (1, 1)] [.string ⟨#[]⟩, .int .i64 0] := BD.mk' Tryz.underlying52 Tryz.zeroValue52 ⟨rfl, Tryz.sizeOf9, rfl, Tryz.sizeOf3, trivial⟩
theorem na_58 : NA Tryz.prog 58 := ⟨Tryz.isAgg58⟩
theorem sz_58 : SZ Tryz.prog 58 1 := ⟨Tryz.sizeOf58⟩
theorem zv_58 : ZV Tryz.prog 58 (.slice none 0 0) := ⟨fun w => Tryz.zeroValue58 w⟩
theorem et_58 : ET Tryz.prog 58 9 1 16 := ET.mk' Tryz.underlying58 Tryz.typeInfo9 rfl rfl rfl rfl
theorem se_58 : SE Tryz.prog 58 1 := ⟨⟨9, Tryz.underlying58, Tryz.sizeOf9⟩⟩
theorem na_64 : NA Tryz.prog 64 := ⟨Tryz.isAgg64⟩
theorem sz_64 : SZ Tryz.prog 64 1 := ⟨Tryz.sizeOf64⟩
theorem zv_64 : ZV Tryz.prog 64 (.slice none 0 0) := ⟨fun w => Tryz.zeroValue64 w⟩
theorem et_64 : ET Tryz.prog 64 3 1 8 := ET.mk' Tryz.underlying64 Tryz.typeInfo3 rfl rfl rfl rfl
theorem se_64 : SE Tryz.prog 64 1 := ⟨⟨3, Tryz.underlying64, Tryz.sizeOf3⟩⟩
theorem ag_66 : AG Tryz.prog 66 3 := ⟨Tryz.isAgg66, Tryz.sizeOf66⟩
theorem sz_66 : SZ Tryz.prog 66 3 := ⟨Tryz.sizeOf66⟩
theorem zv_66 : ZV Tryz.prog 66 (.agg #[.int .i64 0, .int .i64 0, .slice none 0 0]) := ⟨fun w => Tryz.zeroValue66 w⟩
theorem fa_66_0 : FA Tryz.prog 66 0 0 := FA.mk' Tryz.underlying66 rfl rfl Tryz.sizeOf31
theorem fg_66_0 : FG Tryz.prog 66 0 0 2 := FG.mk' Tryz.underlying66 rfl rfl Tryz.isAgg31 Tryz.sizeOf31
theorem fa_66_1 : FA Tryz.prog 66 1 2 := FA.mk' Tryz.underlying66 rfl rfl Tryz.sizeOf64
theorem fn_66_1 : FN Tryz.prog 66 1 2 := FN.mk' Tryz.underlying66 rfl rfl Tryz.isAgg64
theorem bd_66 : BD Tryz.prog 66 [(0, 2), (2, 1)] [.int .i64 0, .int .i64 0, .slice none 0 0] := BD.mk' Tryz.underlying66 Tryz.zeroValue66 ⟨rfl, Tryz.sizeOf31, rfl, Tryz.sizeOf64, trivial⟩
theorem na_69 : NA Tryz.prog 69 := ⟨Tryz.isAgg69⟩
theorem sz_69 : SZ Tryz.prog 69 1 := ⟨Tryz.sizeOf69⟩
theorem zv_69 : ZV Tryz.prog 69 (.map none) := ⟨fun w => Tryz.zeroValue69 w⟩
theorem na_70 : NA Tryz.prog 70 := ⟨Tryz.isAgg70⟩
theorem sz_70 : SZ Tryz.prog 70 1 := ⟨Tryz.sizeOf70⟩
theorem zv_70 : ZV Tryz.prog 70 (.map none) := ⟨fun w => Tryz.zeroValue70 w⟩
theorem ag_72 : AG Tryz.prog 72 2 := ⟨Tryz.isAgg72, Tryz.sizeOf72⟩
theorem sz_72 : SZ Tryz.prog 72 2 := ⟨Tryz.sizeOf72⟩
theorem zv_72 : ZV Tryz.prog 72 (.agg #[.map none, .map none]) := ⟨fun w => Tryz.zeroValue72 w⟩
theorem fa_72_0 : FA Tryz.prog 72 0 0 := FA.mk' Tryz.underlying72 rfl rfl Tryz.sizeOf69
theorem fn_72_0 : FN Tryz.prog 72 0 0 := FN.mk' Tryz.underlying72 rfl rfl Tryz.isAgg69
theorem fa_72_1 : FA Tryz.prog 72 1 1 := FA.mk' Tryz.underlying72 rfl rfl Tryz.sizeOf70
theorem fn_72_1 : FN Tryz.prog 72 1 1 := FN.mk' Tryz.underlying72 rfl rfl Tryz.isAgg70
theorem bd_72 : BD Tryz.prog 72 [(0, 1), (1, 1)] [.map none, .map none] := BD.mk' Tryz.underlying72 Tryz.zeroValue72 ⟨rfl, Tryz.sizeOf69, rfl, Tryz.sizeOf70, trivial⟩
theorem na_76 : NA Tryz.prog 76 := ⟨Tryz.isAgg76⟩
theorem sz_76 : SZ Tryz.prog 76 1 := ⟨Tryz.sizeOf76⟩
theorem zv_76 : ZV Tryz.prog 76 (.map none) := ⟨fun w => Tryz.zeroValue76 w⟩
theorem na_79 : NA Tryz.prog 79 := ⟨Tryz.isAgg79⟩
theorem sz_79 : SZ Tryz.prog 79 1 := ⟨Tryz.sizeOf79⟩
theorem zv_79 : ZV Tryz.prog 79 (.nilFunc) := ⟨fun w => Tryz.zeroValue79 w⟩
theorem na_83 : NA Tryz.prog 83 := ⟨Tryz.isAgg83⟩
theorem sz_83 : SZ Tryz.prog 83 1 := ⟨Tryz.sizeOf83⟩
theorem zv_83 : ZV Tryz.prog 83 (.map none) := ⟨fun w => Tryz.zeroValue83 w⟩
theorem na_87 : NA Tryz.prog 87 := ⟨Tryz.isAgg87⟩
theorem sz_87 : SZ Tryz.prog 87 1 := ⟨Tryz.sizeOf87⟩
theorem zv_87 : ZV Tryz.prog 87 (.nilFunc) := ⟨fun w => Tryz.zeroValue87 w⟩
theorem na_88 : NA Tryz.prog 88 := ⟨Tryz.isAgg88⟩
theorem sz_88 : SZ Tryz.prog 88 1 := ⟨Tryz.sizeOf88⟩
theorem zv_88 : ZV Tryz.prog 88 (.nilFunc) := ⟨fun w => Tryz.zeroValue88 w⟩
theorem na_92 : NA Tryz.prog 92 := ⟨Tryz.isAgg92⟩
theorem sz_92 : SZ Tryz.prog 92 1 := ⟨Tryz.sizeOf92⟩
theorem zv_92 : ZV Tryz.prog 92 (.slice none 0 0) := ⟨fun w => Tryz.zeroValue92 w⟩
theorem et_92 : ET Tryz.prog 92 21 1 4 := ET.mk' Tryz.underlying92 Tryz.typeInfo21 rfl rfl rfl rfl
theorem se_92 : SE Tryz.prog 92 1 := ⟨⟨21, Tryz.underlying92, Tryz.sizeOf21⟩⟩
theorem na_94 : NA Tryz.prog 94 := ⟨Tryz.isAgg94⟩
theorem sz_94 : SZ Tryz.prog 94 1 := ⟨Tryz.sizeOf94⟩
theorem zv_94 : ZV Tryz.prog 94 (.nilFunc) := ⟨fun w => Tryz.zeroValue94 w⟩
theorem na_98 : NA Tryz.prog 98 := ⟨Tryz.isAgg98⟩
theorem sz_98 : SZ Tryz.prog 98 1 := ⟨Tryz.sizeOf98⟩
theorem zv_98 : ZV Tryz.prog 98 (.nilFunc) := ⟨fun w => Tryz.zeroValue98 w⟩
theorem na_100 : NA Tryz.prog 100 := ⟨Tryz.isAgg100⟩
theorem sz_100 : SZ Tryz.prog 100 1 := ⟨Tryz.sizeOf100⟩
theorem zv_100 : ZV Tryz.prog 100 (.nilFunc) := ⟨fun w => Tryz.zeroValue100 w⟩
theorem na_104 : NA Tryz.prog 104 := ⟨Tryz.isAgg104⟩
theorem sz_104 : SZ Tryz.prog 104 1 := ⟨Tryz.sizeOf104⟩
theorem zv_104 : ZV Tryz.prog 104 (.nilFunc) := ⟨fun w => Tryz.zeroValue104 w⟩
theorem na_114 : NA Tryz.prog 114 := ⟨Tryz.isAgg114⟩
theorem sz_114 : SZ Tryz.prog 114 1 := ⟨Tryz.sizeOf114⟩
theorem zv_114 : ZV Tryz.prog 114 (.nilFunc) := ⟨fun w => Tryz.zeroValue114 w⟩
theorem na_118 : NA Tryz.prog 118 := ⟨Tryz.isAgg118⟩
theorem sz_118 : SZ Tryz.prog 118 1 := ⟨Tryz.sizeOf118⟩
theorem zv_118 : ZV Tryz.prog 118 (.int .u64 0) := ⟨fun w => Tryz.zeroValue118 w⟩
theorem na_124 : NA Tryz.prog 124 := ⟨Tryz.isAgg124⟩
theorem sz_124 : SZ Tryz.prog 124 1 := ⟨Tryz.sizeOf124⟩
theorem zv_124 : ZV Tryz.prog 124 (.slice none 0 0) := ⟨fun w => Tryz.zeroValue124 w⟩
theorem et_124 : ET Tryz.prog 124 126 2 16 := ET.mk' Tryz.underlying124 Tryz.typeInfo126 rfl rfl rfl rfl
theorem se_124 : SE Tryz.prog 124 2 := ⟨⟨126, Tryz.underlying124, Tryz.sizeOf126⟩⟩
theorem ag_126 : AG Tryz.prog 126 2 := ⟨Tryz.isAgg126, Tryz.sizeOf126⟩
theorem sz_126 : SZ Tryz.prog 126 2 := ⟨Tryz.sizeOf126⟩
theorem zv_126 : ZV Tryz.prog 126 (.agg #[.int .i64 0, .int .i64 0]) := ⟨fun w => Tryz.zeroValue126 w⟩
theorem fa_126_0 : FA Tryz.prog 126 0 0 := FA.mk' Tryz.underlying126 rfl rfl Tryz.sizeOf3
theorem fn_126_0 : FN Tryz.prog 126 0 0 := FN.mk' Tryz.underlying126 rfl rfl Tryz.isAgg3
theorem fa_126_1 : FA Tryz.prog 126 1 1 := FA.mk' Tryz.underlying126 rfl rfl Tryz.sizeOf3
theorem fn_126_1 : FN Tryz.prog 126 1 1 := FN.mk' Tryz.underlying126 rfl rfl Tryz.isAgg3
theorem bd_126 : BD Tryz.prog 126 [(0, 1), (1, 1)] [.int .i64 0, .int .i64 0] := BD.mk' Tryz.underlying126 Tryz.zeroValue126 ⟨rfl, Tryz.sizeOf3, rfl, Tryz.sizeOf3, trivial⟩
theorem na_127 : NA Tryz.prog 127 := ⟨Tryz.isAgg127⟩
theorem sz_127 : SZ Tryz.prog 127 1 := ⟨Tryz.sizeOf127⟩
theorem zv_127 : ZV Tryz.prog 127 (.pointer none) := ⟨fun w => Tryz.zeroValue127 w⟩
theorem na_128 : NA Tryz.prog 128 := ⟨Tryz.isAgg128⟩
theorem sz_128 : SZ Tryz.prog 128 1 := ⟨Tryz.sizeOf128⟩
theorem zv_128 : ZV Tryz.prog 128 (.slice none 0 0) := ⟨fun w => Tryz.zeroValue128 w⟩
theorem et_128 : ET Tryz.prog 128 5 1 1 := ET.mk' Tryz.underlying128 Tryz.typeInfo5 rfl rfl rfl rfl
theorem se_128 : SE Tryz.prog 128 1 := ⟨⟨5, Tryz.underlying128, Tryz.sizeOf5⟩⟩
theorem ag_130 : AG Tryz.prog 130 2 := ⟨Tryz.isAgg130, Tryz.sizeOf130⟩
theorem sz_130 : SZ Tryz.prog 130 2 := ⟨Tryz.sizeOf130⟩
theorem zv_130 : ZV Tryz.prog 130 (.agg #[.pointer none, .slice none 0 0]) := ⟨fun w => Tryz.zeroValue130 w⟩
theorem fa_130_0 : FA Tryz.prog 130 0 0 := FA.mk' Tryz.underlying130 rfl rfl Tryz.sizeOf127
theorem fn_130_0 : FN Tryz.prog 130 0 0 := FN.mk' Tryz.underlying130 rfl rfl Tryz.isAgg127
theorem fa_130_1 : FA Tryz.prog 130 1 1 := FA.mk' Tryz.underlying130 rfl rfl Tryz.sizeOf128
theorem fn_130_1 : FN Tryz.prog 130 1 1 := FN.mk' Tryz.underlying130 rfl rfl Tryz.isAgg128
theorem bd_130 : BD Tryz.prog 130 [(0, 1), (1, 1)] [.pointer none, .slice none 0 0] := BD.mk' Tryz.underlying130 Tryz.zeroValue130 ⟨rfl, Tryz.sizeOf127, rfl, Tryz.sizeOf128, trivial⟩
theorem na_143 : NA Tryz.prog 143 := ⟨Tryz.isAgg143⟩
theorem sz_143 : SZ Tryz.prog 143 1 := ⟨Tryz.sizeOf143⟩
theorem zv_143 : ZV Tryz.prog 143 (.int .i64 0) := ⟨fun w => Tryz.zeroValue143 w⟩
theorem na_150 : NA Tryz.prog 150 := ⟨Tryz.isAgg150⟩
theorem sz_150 : SZ Tryz.prog 150 1 := ⟨Tryz.sizeOf150⟩
theorem zv_150 : ZV Tryz.prog 150 (.int .u32 0) := ⟨fun w => Tryz.zeroValue150 w⟩
theorem na_152 : NA Tryz.prog 152 := ⟨Tryz.isAgg152⟩
theorem sz_152 : SZ Tryz.prog 152 1 := ⟨Tryz.sizeOf152⟩
theorem zv_152 : ZV Tryz.prog 152 (.int .u64 0) := ⟨fun w => Tryz.zeroValue152 w⟩
theorem ag_159 : AG Tryz.prog 159 256 := ⟨Tryz.isAgg159, Tryz.sizeOf159⟩
theorem sz_159 : SZ Tryz.prog 159 256 := ⟨Tryz.sizeOf159⟩
theorem ag_161 : AG Tryz.prog 161 2 := ⟨Tryz.isAgg161, Tryz.sizeOf161⟩
theorem sz_161 : SZ Tryz.prog 161 2 := ⟨Tryz.sizeOf161⟩
theorem zv_161 : ZV Tryz.prog 161 (.agg #[.int .u8 0, .int .u8 0]) := ⟨fun w => Tryz.zeroValue161 w⟩
theorem fa_161_0 : FA Tryz.prog 161 0 0 := FA.mk' Tryz.underlying161 rfl rfl Tryz.sizeOf5
theorem fn_161_0 : FN Tryz.prog 161 0 0 := FN.mk' Tryz.underlying161 rfl rfl Tryz.isAgg5
theorem fa_161_1 : FA Tryz.prog 161 1 1 := FA.mk' Tryz.underlying161 rfl rfl Tryz.sizeOf5
theorem fn_161_1 : FN Tryz.prog 161 1 1 := FN.mk' Tryz.underlying161 rfl rfl Tryz.isAgg5
theorem bd_161 : BD Tryz.prog 161 [(0, 1), (1, 1)] [.int .u8 0, .int .u8 0] := BD.mk' Tryz.underlying161 Tryz.zeroValue161 ⟨rfl, Tryz.sizeOf5, rfl, Tryz.sizeOf5, trivial⟩
theorem ag_162 : AG Tryz.prog 162 32 := ⟨Tryz.isAgg162, Tryz.sizeOf162⟩
theorem sz_162 : SZ Tryz.prog 162 32 := ⟨Tryz.sizeOf162⟩
theorem zv_162 : ZV Tryz.prog 162 (.agg #[.int .u8 0, .int .u8 0, .int .u8 0, .int .u8 0, .int .u8 0, .int .u8 0, .int .u8 0, .int .u8 0, .int .u8 0, .int .u8 0, .int .u8 0, .int .u8 0, .int .u8 0, .int .u8 0, .int .u8 0, .int .u8 0, .int .u8 0, .int .u8 0, .int .u8 0, .int .u8 0, .int .u8 0, .int .u8 0, .int .u8 0, .int .u8 0, .int .u8 0, .int .u8 0, .int .u8 0, .int .u8 0, .int .u8 0, .int .u8 0, .int .u8 0, .int .u8 0]) := ⟨fun w => Tryz.zeroValue162 w⟩
theorem na_164 : NA Tryz.prog 164 := ⟨Tryz.isAgg164⟩
theorem sz_164 : SZ Tryz.prog 164 1 := ⟨Tryz.sizeOf164⟩
theorem zv_164 : ZV Tryz.prog 164 (.pointer none) := ⟨fun w => Tryz.zeroValue164 w⟩
theorem na_169 : NA Tryz.prog 169 := ⟨Tryz.isAgg169⟩
theorem sz_169 : SZ Tryz.prog 169 1 := ⟨Tryz.sizeOf169⟩
theorem zv_169 : ZV Tryz.prog 169 (.pointer none) := ⟨fun w => Tryz.zeroValue169 w⟩
theorem na_175 : NA Tryz.prog 175 := ⟨Tryz.isAgg175⟩
theorem sz_175 : SZ Tryz.prog 175 1 := ⟨Tryz.sizeOf175⟩
theorem zv_175 : ZV Tryz.prog 175 (.int .u64 0) := ⟨fun w => Tryz.zeroValue175 w⟩
theorem na_179 : NA Tryz.prog 179 := ⟨Tryz.isAgg179⟩
theorem sz_179 : SZ Tryz.prog 179 1 := ⟨Tryz.sizeOf179⟩
theorem zv_179 : ZV Tryz.prog 179 (.pointer none) := ⟨fun w => Tryz.zeroValue179 w⟩
theorem na_183 : NA Tryz.prog 183 := ⟨Tryz.isAgg183⟩
theorem sz_183 : SZ Tryz.prog 183 1 := ⟨Tryz.sizeOf183⟩
theorem zv_183 : ZV Tryz.prog 183 (.slice none 0 0) := ⟨fun w => Tryz.zeroValue183 w⟩
theorem et_183 : ET Tryz.prog 183 189 3 6 := ET.mk' Tryz.underlying183 Tryz.typeInfo189 rfl rfl rfl rfl
theorem se_183 : SE Tryz.prog 183 3 := ⟨⟨189, Tryz.underlying183, Tryz.sizeOf189⟩⟩
theorem na_184 : NA Tryz.prog 184 := ⟨Tryz.isAgg184⟩
theorem sz_184 : SZ Tryz.prog 184 1 := ⟨Tryz.sizeOf184⟩
theorem zv_184 : ZV Tryz.prog 184 (.slice none 0 0) := ⟨fun w => Tryz.zeroValue184 w⟩
theorem et_184 : ET Tryz.prog 184 192 3 12 := ET.mk' Tryz.underlying184 Tryz.typeInfo192 rfl rfl rfl rfl
theorem se_184 : SE Tryz.prog 184 3 := ⟨⟨192, Tryz.underlying184, Tryz.sizeOf192⟩⟩
theorem ag_186 : AG Tryz.prog 186 3 := ⟨Tryz.isAgg186, Tryz.sizeOf186⟩
theorem sz_186 : SZ Tryz.prog 186 3 := ⟨Tryz.sizeOf186⟩
theorem zv_186 : ZV Tryz.prog 186 (.agg #[.slice none 0 0, .slice none 0 0, .int .i64 0]) := ⟨fun w => Tryz.zeroValue186 w⟩
theorem fa_186_0 : FA Tryz.prog 186 0 0 := FA.mk' Tryz.underlying186 rfl rfl Tryz.sizeOf183
theorem fn_186_0 : FN Tryz.prog 186 0 0 := FN.mk' Tryz.underlying186 rfl rfl Tryz.isAgg183
theorem fa_186_1 : FA Tryz.prog 186 1 1 := FA.mk' Tryz.underlying186 rfl rfl Tryz.sizeOf184
theorem fn_186_1 : FN Tryz.prog 186 1 1 := FN.mk' Tryz.underlying186 rfl rfl Tryz.isAgg184
theorem fa_186_2 : FA Tryz.prog 186 2 2 := FA.mk' Tryz.underlying186 rfl rfl Tryz.sizeOf3
theorem fn_186_2 : FN Tryz.prog 186 2 2 := FN.mk' Tryz.underlying186 rfl rfl Tryz.isAgg3
theorem bd_186 : BD Tryz.prog 186 [(0, 1), (1, 1), (2, 1)] [.slice none 0 0, .slice none 0 0, .int .i64 0] := BD.mk' Tryz.underlying186 Tryz.zeroValue186 ⟨rfl, Tryz.sizeOf183, rfl, Tryz.sizeOf184, rfl, Tryz.sizeOf3, trivial⟩
theorem na_187 : NA Tryz.prog 187 := ⟨Tryz.isAgg187⟩
theorem sz_187 : SZ Tryz.prog 187 1 := ⟨Tryz.sizeOf187⟩
theorem zv_187 : ZV Tryz.prog 187 (.int .u16 0) := ⟨fun w => Tryz.zeroValue187 w⟩
theorem ag_189 : AG Tryz.prog 189 3 := ⟨Tryz.isAgg189, Tryz.sizeOf189⟩
theorem sz_189 : SZ Tryz.prog 189 3 := ⟨Tryz.sizeOf189⟩
theorem zv_189 : ZV Tryz.prog 189 (.agg #[.int .u16 0, .int .u16 0, .int .u16 0]) := ⟨fun w => Tryz.zeroValue189 w⟩
theorem fa_189_0 : FA Tryz.prog 189 0 0 := FA.mk' Tryz.underlying189 rfl rfl Tryz.sizeOf187
theorem fn_189_0 : FN Tryz.prog 189 0 0 := FN.mk' Tryz.underlying189 rfl rfl Tryz.isAgg187
theorem fa_189_1 : FA Tryz.prog 189 1 1 := FA.mk' Tryz.underlying189 rfl rfl Tryz.sizeOf187
theorem fn_189_1 : FN Tryz.prog 189 1 1 := FN.mk' Tryz.underlying189 rfl rfl Tryz.isAgg187
theorem fa_189_2 : FA Tryz.prog 189 2 2 := FA.mk' Tryz.underlying189 rfl rfl Tryz.sizeOf187
theorem fn_189_2 : FN Tryz.prog 189 2 2 := FN.mk' Tryz.underlying189 rfl rfl Tryz.isAgg187
theorem bd_189 : BD Tryz.prog 189 [(0, 1), (1, 1), (2, 1)] [.int .u16 0, .int .u16 0, .int .u16 0] := BD.mk' Tryz.underlying189 Tryz.zeroValue189 ⟨rfl, Tryz.sizeOf187, rfl, Tryz.sizeOf187, rfl, Tryz.sizeOf187, trivial⟩
theorem ag_192 : AG Tryz.prog 192 3 := ⟨Tryz.isAgg192, Tryz.sizeOf192⟩
theorem sz_192 : SZ Tryz.prog 192 3 := ⟨Tryz.sizeOf192⟩
theorem zv_192 : ZV Tryz.prog 192 (.agg #[.int .u32 0, .int .u32 0, .int .u32 0]) := ⟨fun w => Tryz.zeroValue192 w⟩
theorem fa_192_0 : FA Tryz.prog 192 0 0 := FA.mk' Tryz.underlying192 rfl rfl Tryz.sizeOf150
theorem fn_192_0 : FN Tryz.prog 192 0 0 := FN.mk' Tryz.underlying192 rfl rfl Tryz.isAgg150
theorem fa_192_1 : FA Tryz.prog 192 1 1 := FA.mk' Tryz.underlying192 rfl rfl Tryz.sizeOf150
theorem fn_192_1 : FN Tryz.prog 192 1 1 := FN.mk' Tryz.underlying192 rfl rfl Tryz.isAgg150
theorem fa_192_2 : FA Tryz.prog 192 2 2 := FA.mk' Tryz.underlying192 rfl rfl Tryz.sizeOf150
theorem fn_192_2 : FN Tryz.prog 192 2 2 := FN.mk' Tryz.underlying192 rfl rfl Tryz.isAgg150
theorem bd_192 : BD Tryz.prog 192 [(0, 1), (1, 1), (2, 1)] [.int .u32 0, .int .u32 0, .int .u32 0] := BD.mk' Tryz.underlying192 Tryz.zeroValue192 ⟨rfl, Tryz.sizeOf150, rfl, Tryz.sizeOf150, rfl, Tryz.sizeOf150, trivial⟩
theorem na_196 : NA Tryz.prog 196 := ⟨Tryz.isAgg196⟩
theorem sz_196 : SZ Tryz.prog 196 1 := ⟨Tryz.sizeOf196⟩
theorem zv_196 : ZV Tryz.prog 196 (.slice none 0 0) := ⟨fun w => Tryz.zeroValue196 w⟩
theorem et_196 : ET Tryz.prog 196 221 5 20 := ET.mk' Tryz.underlying196 Tryz.typeInfo221 rfl rfl rfl rfl
theorem se_196 : SE Tryz.prog 196 5 := ⟨⟨221, Tryz.underlying196, Tryz.sizeOf221⟩⟩
theorem na_202 : NA Tryz.prog 202 := ⟨Tryz.isAgg202⟩
theorem sz_202 : SZ Tryz.prog 202 1 := ⟨Tryz.sizeOf202⟩
theorem zv_202 : ZV Tryz.prog 202 (.pointer none) := ⟨fun w => Tryz.zeroValue202 w⟩
theorem na_212 : NA Tryz.prog 212 := ⟨Tryz.isAgg212⟩
theorem sz_212 : SZ Tryz.prog 212 1 := ⟨Tryz.sizeOf212⟩
theorem zv_212 : ZV Tryz.prog 212 (.pointer none) := ⟨fun w => Tryz.zeroValue212 w⟩
theorem ag_219 : AG Tryz.prog 219 3 := ⟨Tryz.isAgg219, Tryz.sizeOf219⟩
theorem sz_219 : SZ Tryz.prog 219 3 := ⟨Tryz.sizeOf219⟩
theorem zv_219 : ZV Tryz.prog 219 (.agg #[.int .i32 0, .int .i32 0, .int .i32 0]) := ⟨fun w => Tryz.zeroValue219 w⟩
theorem ag_221 : AG Tryz.prog 221 5 := ⟨Tryz.isAgg221, Tryz.sizeOf221⟩
theorem sz_221 : SZ Tryz.prog 221 5 := ⟨Tryz.sizeOf221⟩
theorem zv_221 : ZV Tryz.prog 221 (.agg #[.int .u32 0, .int .u32 0, .int .i32 0, .int .i32 0, .int .i32 0]) := ⟨fun w => Tryz.zeroValue221 w⟩
theorem fa_221_0 : FA Tryz.prog 221 0 0 := FA.mk' Tryz.underlying221 rfl rfl Tryz.sizeOf150
theorem fn_221_0 : FN Tryz.prog 221 0 0 := FN.mk' Tryz.underlying221 rfl rfl Tryz.isAgg150
theorem fa_221_1 : FA Tryz.prog 221 1 1 := FA.mk' Tryz.underlying221 rfl rfl Tryz.sizeOf150
theorem fn_221_1 : FN Tryz.prog 221 1 1 := FN.mk' Tryz.underlying221 rfl rfl Tryz.isAgg150
theorem fa_221_2 : FA Tryz.prog 221 2 2 := FA.mk' Tryz.underlying221 rfl rfl Tryz.sizeOf219
theorem fg_221_2 : FG Tryz.prog 221 2 2 3 := FG.mk' Tryz.underlying221 rfl rfl Tryz.isAgg219 Tryz.sizeOf219
theorem bd_221 : BD Tryz.prog 221 [(0, 1), (1, 1), (2, 3)] [.int .u32 0, .int .u32 0, .int .i32 0, .int .i32 0, .int .i32 0] := BD.mk' Tryz.underlying221 Tryz.zeroValue221 ⟨rfl, Tryz.sizeOf150, rfl, Tryz.sizeOf150, rfl, Tryz.sizeOf219, trivial⟩
theorem mixed : Tryz.prog.follows .mixedOrders = true := by kernel_rfl
end Go.Proofs.YtmbikfojljnnkaaGreatDoor
