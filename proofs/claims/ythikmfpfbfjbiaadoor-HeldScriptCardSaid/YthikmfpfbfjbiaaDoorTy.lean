/- Facts on the program's types, printed by wip/gen/gen.py. -/
import Derived.Test.YthikmfpfbfjbiaaDoorProg
import Derived.Test.YthikmfpfbfjbiaaDoorRg
import Derived.Test.YthikmfpfbfjbiaaDoorMore
namespace Go.Proofs.YthikmfpfbfjbiaaDoor
open Go Go.Sl
set_option maxRecDepth 100000
theorem na_3 : NA Tryd.prog 3 := ⟨Tryd.isAgg3⟩
theorem sz_3 : SZ Tryd.prog 3 1 := ⟨Tryd.sizeOf3⟩
theorem zv_3 : ZV Tryd.prog 3 (.int .i64 0) := ⟨fun w => Tryd.zeroValue3 w⟩
theorem na_4 : NA Tryd.prog 4 := ⟨Tryd.isAgg4⟩
theorem sz_4 : SZ Tryd.prog 4 1 := ⟨Tryd.sizeOf4⟩
theorem zv_4 : ZV Tryd.prog 4 (.bool false) := ⟨fun w => Tryd.zeroValue4 w⟩
theorem na_5 : NA Tryd.prog 5 := ⟨Tryd.isAgg5⟩
theorem sz_5 : SZ Tryd.prog 5 1 := ⟨Tryd.sizeOf5⟩
theorem zv_5 : ZV Tryd.prog 5 (.int .u8 0) := ⟨fun w => Tryd.zeroValue5 w⟩
theorem na_9 : NA Tryd.prog 9 := ⟨Tryd.isAgg9⟩
theorem sz_9 : SZ Tryd.prog 9 1 := ⟨Tryd.sizeOf9⟩
theorem zv_9 : ZV Tryd.prog 9 (.string ⟨#[]⟩) := ⟨fun w => Tryd.zeroValue9 w⟩
theorem na_12 : NA Tryd.prog 12 := ⟨Tryd.isAgg12⟩
theorem sz_12 : SZ Tryd.prog 12 1 := ⟨Tryd.sizeOf12⟩
theorem zv_12 : ZV Tryd.prog 12 (.int .u64 0) := ⟨fun w => Tryd.zeroValue12 w⟩
theorem na_22 : NA Tryd.prog 22 := ⟨Tryd.isAgg22⟩
theorem sz_22 : SZ Tryd.prog 22 1 := ⟨Tryd.sizeOf22⟩
theorem zv_22 : ZV Tryd.prog 22 (.slice none 0 0) := ⟨fun w => Tryd.zeroValue22 w⟩
theorem et_22 : ET Tryd.prog 22 32 7 80 := ET.mk' Tryd.underlying22 Tryd.typeInfo32 rfl rfl rfl rfl
theorem se_22 : SE Tryd.prog 22 7 := ⟨⟨32, Tryd.underlying22, Tryd.sizeOf32⟩⟩
theorem ag_25 : AG Tryd.prog 25 2 := ⟨Tryd.isAgg25, Tryd.sizeOf25⟩
theorem sz_25 : SZ Tryd.prog 25 2 := ⟨Tryd.sizeOf25⟩
theorem zv_25 : ZV Tryd.prog 25 (.agg #[.int .i64 0, .int .i64 0]) := ⟨fun w => Tryd.zeroValue25 w⟩
theorem fa_25_0 : FA Tryd.prog 25 0 0 := FA.mk' Tryd.underlying25 rfl rfl Tryd.sizeOf3
theorem fn_25_0 : FN Tryd.prog 25 0 0 := FN.mk' Tryd.underlying25 rfl rfl Tryd.isAgg3
theorem fa_25_1 : FA Tryd.prog 25 1 1 := FA.mk' Tryd.underlying25 rfl rfl Tryd.sizeOf3
theorem fn_25_1 : FN Tryd.prog 25 1 1 := FN.mk' Tryd.underlying25 rfl rfl Tryd.isAgg3
theorem bd_25 : BD Tryd.prog 25 [(0, 1), (1, 1)] [.int .i64 0, .int .i64 0] := BD.mk' Tryd.underlying25 Tryd.zeroValue25 ⟨rfl, Tryd.sizeOf3, rfl, Tryd.sizeOf3, trivial⟩
theorem ag_27 : AG Tryd.prog 27 2 := ⟨Tryd.isAgg27, Tryd.sizeOf27⟩
theorem sz_27 : SZ Tryd.prog 27 2 := ⟨Tryd.sizeOf27⟩
theorem zv_27 : ZV Tryd.prog 27 (.agg #[.int .i64 0, .int .i64 0]) := ⟨fun w => Tryd.zeroValue27 w⟩
theorem fa_27_0 : FA Tryd.prog 27 0 0 := FA.mk' Tryd.underlying27 rfl rfl Tryd.sizeOf3
theorem fn_27_0 : FN Tryd.prog 27 0 0 := FN.mk' Tryd.underlying27 rfl rfl Tryd.isAgg3
theorem fa_27_1 : FA Tryd.prog 27 1 1 := FA.mk' Tryd.underlying27 rfl rfl Tryd.sizeOf3
theorem fn_27_1 : FN Tryd.prog 27 1 1 := FN.mk' Tryd.underlying27 rfl rfl Tryd.isAgg3
theorem bd_27 : BD Tryd.prog 27 [(0, 1), (1, 1)] [.int .i64 0, .int .i64 0] := BD.mk' Tryd.underlying27 Tryd.zeroValue27 ⟨rfl, Tryd.sizeOf3, rfl, Tryd.sizeOf3, trivial⟩
theorem ag_29 : AG Tryd.prog 29 5 := ⟨Tryd.isAgg29, Tryd.sizeOf29⟩
theorem sz_29 : SZ Tryd.prog 29 5 := ⟨Tryd.sizeOf29⟩
theorem zv_29 : ZV Tryd.prog 29 (.agg #[.int .i64 0, .int .i64 0, .int .i64 0, .int .i64 0, .string ⟨#[]⟩]) := ⟨fun w => Tryd.zeroValue29 w⟩
theorem fa_29_0 : FA Tryd.prog 29 0 0 := FA.mk' Tryd.underlying29 rfl rfl Tryd.sizeOf25
theorem fg_29_0 : FG Tryd.prog 29 0 0 2 := FG.mk' Tryd.underlying29 rfl rfl Tryd.isAgg25 Tryd.sizeOf25
theorem fa_29_1 : FA Tryd.prog 29 1 2 := FA.mk' Tryd.underlying29 rfl rfl Tryd.sizeOf27
theorem fg_29_1 : FG Tryd.prog 29 1 2 2 := FG.mk' Tryd.underlying29 rfl rfl Tryd.isAgg27 Tryd.sizeOf27
theorem fa_29_2 : FA Tryd.prog 29 2 4 := FA.mk' Tryd.underlying29 rfl rfl Tryd.sizeOf9
theorem fn_29_2 : FN Tryd.prog 29 2 4 := FN.mk' Tryd.underlying29 rfl rfl Tryd.isAgg9
theorem bd_29 : BD Tryd.prog 29 [(0, 2), (2, 2), (4, 1)] [.int .i64 0, .int .i64 0, .int .i64 0, .int .i64 0, .string ⟨#[]⟩] := BD.mk' Tryd.underlying29 Tryd.zeroValue29 ⟨rfl, Tryd.sizeOf25, rfl, Tryd.sizeOf27, rfl, Tryd.sizeOf9, trivial⟩
theorem na_30 : NA Tryd.prog 30 := ⟨Tryd.isAgg30⟩
theorem sz_30 : SZ Tryd.prog 30 1 := ⟨Tryd.sizeOf30⟩
theorem zv_30 : ZV Tryd.prog 30 (.slice none 0 0) := ⟨fun w => Tryd.zeroValue30 w⟩
theorem et_30 : ET Tryd.prog 30 3 1 8 := ET.mk' Tryd.underlying30 Tryd.typeInfo3 rfl rfl rfl rfl
theorem se_30 : SE Tryd.prog 30 1 := ⟨⟨3, Tryd.underlying30, Tryd.sizeOf3⟩⟩
theorem ag_32 : AG Tryd.prog 32 7 := ⟨Tryd.isAgg32, Tryd.sizeOf32⟩
theorem sz_32 : SZ Tryd.prog 32 7 := ⟨Tryd.sizeOf32⟩
theorem zv_32 : ZV Tryd.prog 32 (.agg #[.int .i64 0, .int .i64 0, .int .i64 0, .int .i64 0, .int .i64 0, .string ⟨#[]⟩, .slice none 0 0]) := ⟨fun w => Tryd.zeroValue32 w⟩
theorem fa_32_0 : FA Tryd.prog 32 0 0 := FA.mk' Tryd.underlying32 rfl rfl Tryd.sizeOf3
theorem fn_32_0 : FN Tryd.prog 32 0 0 := FN.mk' Tryd.underlying32 rfl rfl Tryd.isAgg3
theorem fa_32_1 : FA Tryd.prog 32 1 1 := FA.mk' Tryd.underlying32 rfl rfl Tryd.sizeOf29
theorem fg_32_1 : FG Tryd.prog 32 1 1 5 := FG.mk' Tryd.underlying32 rfl rfl Tryd.isAgg29 Tryd.sizeOf29
theorem fa_32_2 : FA Tryd.prog 32 2 6 := FA.mk' Tryd.underlying32 rfl rfl Tryd.sizeOf30
theorem fn_32_2 : FN Tryd.prog 32 2 6 := FN.mk' Tryd.underlying32 rfl rfl Tryd.isAgg30
theorem bd_32 : BD Tryd.prog 32 [(0, 1), (1, 5), (6, 1)] [.int .i64 0, .int .i64 0, .int .i64 0, .int .i64 0, .int .i64 0, .string ⟨#[]⟩, .slice none 0 0] := BD.mk' Tryd.underlying32 Tryd.zeroValue32 ⟨rfl, Tryd.sizeOf3, rfl, Tryd.sizeOf29, rfl, Tryd.sizeOf30, trivial⟩
theorem na_33 : NA Tryd.prog 33 := ⟨Tryd.isAgg33⟩
theorem sz_33 : SZ Tryd.prog 33 1 := ⟨Tryd.sizeOf33⟩
theorem zv_33 : ZV Tryd.prog 33 (.pointer none) := ⟨fun w => Tryd.zeroValue33 w⟩
theorem na_35 : NA Tryd.prog 35 := ⟨Tryd.isAgg35⟩
theorem sz_35 : SZ Tryd.prog 35 1 := ⟨Tryd.sizeOf35⟩
theorem zv_35 : ZV Tryd.prog 35 (.pointer none) := ⟨fun w => Tryd.zeroValue35 w⟩
theorem na_36 : NA Tryd.prog 36 := ⟨Tryd.isAgg36⟩
theorem sz_36 : SZ Tryd.prog 36 1 := ⟨Tryd.sizeOf36⟩
theorem zv_36 : ZV Tryd.prog 36 (.slice none 0 0) := ⟨fun w => Tryd.zeroValue36 w⟩
theorem et_36 : ET Tryd.prog 36 29 5 48 := ET.mk' Tryd.underlying36 Tryd.typeInfo29 rfl rfl rfl rfl
theorem se_36 : SE Tryd.prog 36 5 := ⟨⟨29, Tryd.underlying36, Tryd.sizeOf29⟩⟩
theorem ag_38 : AG Tryd.prog 38 2 := ⟨Tryd.isAgg38, Tryd.sizeOf38⟩
theorem sz_38 : SZ Tryd.prog 38 2 := ⟨Tryd.sizeOf38⟩
theorem zv_38 : ZV Tryd.prog 38 (.agg #[.slice none 0 0, .int .i64 0]) := ⟨fun w => Tryd.zeroValue38 w⟩
theorem fa_38_0 : FA Tryd.prog 38 0 0 := FA.mk' Tryd.underlying38 rfl rfl Tryd.sizeOf36
theorem fn_38_0 : FN Tryd.prog 38 0 0 := FN.mk' Tryd.underlying38 rfl rfl Tryd.isAgg36
theorem fa_38_1 : FA Tryd.prog 38 1 1 := FA.mk' Tryd.underlying38 rfl rfl Tryd.sizeOf3
theorem fn_38_1 : FN Tryd.prog 38 1 1 := FN.mk' Tryd.underlying38 rfl rfl Tryd.isAgg3
theorem bd_38 : BD Tryd.prog 38 [(0, 1), (1, 1)] [.slice none 0 0, .int .i64 0] := BD.mk' Tryd.underlying38 Tryd.zeroValue38 ⟨rfl, Tryd.sizeOf36, rfl, Tryd.sizeOf3, trivial⟩
theorem na_40 : NA Tryd.prog 40 := ⟨Tryd.isAgg40⟩
theorem sz_40 : SZ Tryd.prog 40 1 := ⟨Tryd.sizeOf40⟩
theorem zv_40 : ZV Tryd.prog 40 (.int .i64 0) := ⟨fun w => Tryd.zeroValue40 w⟩
theorem na_48 : NA Tryd.prog 48 := ⟨Tryd.isAgg48⟩
theorem sz_48 : SZ Tryd.prog 48 1 := ⟨Tryd.sizeOf48⟩
theorem zv_48 : ZV Tryd.prog 48 (.slice none 0 0) := ⟨fun w => Tryd.zeroValue48 w⟩
theorem et_48 : ET Tryd.prog 48 25 2 16 := ET.mk' Tryd.underlying48 Tryd.typeInfo25 rfl rfl rfl rfl
theorem se_48 : SE Tryd.prog 48 2 := ⟨⟨25, Tryd.underlying48, Tryd.sizeOf25⟩⟩
theorem na_59 : NA Tryd.prog 59 := ⟨Tryd.isAgg59⟩
theorem sz_59 : SZ Tryd.prog 59 1 := ⟨Tryd.sizeOf59⟩
theorem zv_59 : ZV Tryd.prog 59 (.map none) := ⟨fun w => Tryd.zeroValue59 w⟩
theorem ag_61 : AG Tryd.prog 61 2 := ⟨Tryd.isAgg61, Tryd.sizeOf61⟩
theorem sz_61 : SZ Tryd.prog 61 2 := ⟨Tryd.sizeOf61⟩
theorem zv_61 : ZV Tryd.prog 61 (.agg #[.int .i64 0, .map none]) := ⟨fun w => Tryd.zeroValue61 w⟩
theorem fa_61_0 : FA Tryd.prog 61 0 0 := FA.mk' Tryd.underlying61 rfl rfl Tryd.sizeOf3
theorem fn_61_0 : FN Tryd.prog 61 0 0 := FN.mk' Tryd.underlying61 rfl rfl Tryd.isAgg3
theorem fa_61_1 : FA Tryd.prog 61 1 1 := FA.mk' Tryd.underlying61 rfl rfl Tryd.sizeOf59
theorem fn_61_1 : FN Tryd.prog 61 1 1 := FN.mk' Tryd.underlying61 rfl rfl Tryd.isAgg59
theorem bd_61 : BD Tryd.prog 61 [(0, 1), (1, 1)] [.int .i64 0, .map none] := BD.mk' Tryd.underlying61 Tryd.zeroValue61 ⟨rfl, Tryd.sizeOf3, rfl, Tryd.sizeOf59, trivial⟩
theorem na_66 : NA Tryd.prog 66 := ⟨Tryd.isAgg66⟩
theorem sz_66 : SZ Tryd.prog 66 1 := ⟨Tryd.sizeOf66⟩
theorem zv_66 : ZV Tryd.prog 66 (.nilFunc) := ⟨fun w => Tryd.zeroValue66 w⟩
theorem na_69 : NA Tryd.prog 69 := ⟨Tryd.isAgg69⟩
theorem sz_69 : SZ Tryd.prog 69 1 := ⟨Tryd.sizeOf69⟩
theorem zv_69 : ZV Tryd.prog 69 (.nilFunc) := ⟨fun w => Tryd.zeroValue69 w⟩
theorem na_71 : NA Tryd.prog 71 := ⟨Tryd.isAgg71⟩
theorem sz_71 : SZ Tryd.prog 71 1 := ⟨Tryd.sizeOf71⟩
theorem zv_71 : ZV Tryd.prog 71 (.int .u64 0) := ⟨fun w => Tryd.zeroValue71 w⟩
theorem ag_82 : AG Tryd.prog 82 256 := ⟨Tryd.isAgg82, Tryd.sizeOf82⟩
theorem sz_82 : SZ Tryd.prog 82 256 := ⟨Tryd.sizeOf82⟩
theorem ag_84 : AG Tryd.prog 84 2 := ⟨Tryd.isAgg84, Tryd.sizeOf84⟩
theorem sz_84 : SZ Tryd.prog 84 2 := ⟨Tryd.sizeOf84⟩
theorem zv_84 : ZV Tryd.prog 84 (.agg #[.int .u8 0, .int .u8 0]) := ⟨fun w => Tryd.zeroValue84 w⟩
theorem fa_84_0 : FA Tryd.prog 84 0 0 := FA.mk' Tryd.underlying84 rfl rfl Tryd.sizeOf5
theorem fn_84_0 : FN Tryd.prog 84 0 0 := FN.mk' Tryd.underlying84 rfl rfl Tryd.isAgg5
theorem fa_84_1 : FA Tryd.prog 84 1 1 := FA.mk' Tryd.underlying84 rfl rfl Tryd.sizeOf5
theorem fn_84_1 : FN Tryd.prog 84 1 1 := FN.mk' Tryd.underlying84 rfl rfl Tryd.isAgg5
theorem bd_84 : BD Tryd.prog 84 [(0, 1), (1, 1)] [.int .u8 0, .int .u8 0] := BD.mk' Tryd.underlying84 Tryd.zeroValue84 ⟨rfl, Tryd.sizeOf5, rfl, Tryd.sizeOf5, trivial⟩
theorem ag_85 : AG Tryd.prog 85 32 := ⟨Tryd.isAgg85, Tryd.sizeOf85⟩
theorem sz_85 : SZ Tryd.prog 85 32 := ⟨Tryd.sizeOf85⟩
theorem zv_85 : ZV Tryd.prog 85 (.agg #[.int .u8 0, .int .u8 0, .int .u8 0, .int .u8 0, .int .u8 0, .int .u8 0, .int .u8 0, .int .u8 0, .int .u8 0, .int .u8 0, .int .u8 0, .int .u8 0, .int .u8 0, .int .u8 0, .int .u8 0, .int .u8 0, .int .u8 0, .int .u8 0, .int .u8 0, .int .u8 0, .int .u8 0, .int .u8 0, .int .u8 0, .int .u8 0, .int .u8 0, .int .u8 0, .int .u8 0, .int .u8 0, .int .u8 0, .int .u8 0, .int .u8 0, .int .u8 0]) := ⟨fun w => Tryd.zeroValue85 w⟩
theorem na_87 : NA Tryd.prog 87 := ⟨Tryd.isAgg87⟩
theorem sz_87 : SZ Tryd.prog 87 1 := ⟨Tryd.sizeOf87⟩
theorem zv_87 : ZV Tryd.prog 87 (.int .i64 0) := ⟨fun w => Tryd.zeroValue87 w⟩
theorem na_95 : NA Tryd.prog 95 := ⟨Tryd.isAgg95⟩
theorem sz_95 : SZ Tryd.prog 95 1 := ⟨Tryd.sizeOf95⟩
theorem zv_95 : ZV Tryd.prog 95 (.int .u32 0) := ⟨fun w => Tryd.zeroValue95 w⟩
theorem na_97 : NA Tryd.prog 97 := ⟨Tryd.isAgg97⟩
theorem sz_97 : SZ Tryd.prog 97 1 := ⟨Tryd.sizeOf97⟩
theorem zv_97 : ZV Tryd.prog 97 (.int .u64 0) := ⟨fun w => Tryd.zeroValue97 w⟩
theorem na_98 : NA Tryd.prog 98 := ⟨Tryd.isAgg98⟩
theorem sz_98 : SZ Tryd.prog 98 1 := ⟨Tryd.sizeOf98⟩
theorem zv_98 : ZV Tryd.prog 98 (.int .u64 0) := ⟨fun w => Tryd.zeroValue98 w⟩
theorem na_102 : NA Tryd.prog 102 := ⟨Tryd.isAgg102⟩
theorem sz_102 : SZ Tryd.prog 102 1 := ⟨Tryd.sizeOf102⟩
theorem zv_102 : ZV Tryd.prog 102 (.pointer none) := ⟨fun w => Tryd.zeroValue102 w⟩
theorem mixed : Tryd.prog.follows .mixedOrders = true := by kernel_rfl
end Go.Proofs.YthikmfpfbfjbiaaDoor
