/- Facts on the program's types, printed by wip/gen/gen.py. -/
import Derived.Test.YthlnjkfahmebjaaDoorProg
import Derived.Test.YthlnjkfahmebjaaDoorRg
import Derived.Test.YthlnjkfahmebjaaDoorMore
namespace Go.Proofs.YthlnjkfahmebjaaDoor
open Go Go.Sl
set_option maxRecDepth 100000
theorem na_3 : NA Tryd.prog 3 := ⟨Tryd.isAgg3⟩
theorem sz_3 : SZ Tryd.prog 3 1 := ⟨Tryd.sizeOf3⟩
theorem zv_3 : ZV Tryd.prog 3 (.int .i64 0) := ⟨fun w => Tryd.zeroValue3 w⟩
theorem na_4 : NA Tryd.prog 4 := ⟨Tryd.isAgg4⟩
theorem sz_4 : SZ Tryd.prog 4 1 := ⟨Tryd.sizeOf4⟩
theorem zv_4 : ZV Tryd.prog 4 (.bool false) := ⟨fun w => Tryd.zeroValue4 w⟩
theorem na_5 : NA Tryd.prog 5 := ⟨Tryd.isAgg5⟩
theorem sz_5 : SZ Tryd.prog 5 1 := ⟨Tryd.sizeOf5⟩
theorem zv_5 : ZV Tryd.prog 5 (.int .u8 0) := ⟨fun w => Tryd.zeroValue5 w⟩
theorem na_9 : NA Tryd.prog 9 := ⟨Tryd.isAgg9⟩
theorem sz_9 : SZ Tryd.prog 9 1 := ⟨Tryd.sizeOf9⟩
theorem zv_9 : ZV Tryd.prog 9 (.string ⟨#[]⟩) := ⟨fun w => Tryd.zeroValue9 w⟩
theorem na_12 : NA Tryd.prog 12 := ⟨Tryd.isAgg12⟩
theorem sz_12 : SZ Tryd.prog 12 1 := ⟨Tryd.sizeOf12⟩
theorem zv_12 : ZV Tryd.prog 12 (.int .u64 0) := ⟨fun w => Tryd.zeroValue12 w⟩
theorem na_22 : NA Tryd.prog 22 := ⟨Tryd.isAgg22⟩
theorem sz_22 : SZ Tryd.prog 22 1 := ⟨Tryd.sizeOf22⟩
theorem zv_22 : ZV Tryd.prog 22 (.slice none 0 0) := ⟨fun w => Tryd.zeroValue22 w⟩
theorem et_22 : ET Tryd.prog 22 42 5 48 := ET.mk' Tryd.underlying22 Tryd.typeInfo42 rfl rfl rfl rfl
theorem se_22 : SE Tryd.prog 22 5 := ⟨⟨42, Tryd.underlying22, Tryd.sizeOf42⟩⟩
theorem na_25 : NA Tryd.prog 25 := ⟨Tryd.isAgg25⟩
theorem sz_25 : SZ Tryd.prog 25 1 := ⟨Tryd.sizeOf25⟩
theorem zv_25 : ZV Tryd.prog 25 (.pointer none) := ⟨fun w => Tryd.zeroValue25 w⟩
theorem na_26 : NA Tryd.prog 26 := ⟨Tryd.isAgg26⟩
theorem sz_26 : SZ Tryd.prog 26 1 := ⟨Tryd.sizeOf26⟩
theorem zv_26 : ZV Tryd.prog 26 (.pointer none) := ⟨fun w => Tryd.zeroValue26 w⟩
theorem na_30 : NA Tryd.prog 30 := ⟨Tryd.isAgg30⟩
theorem sz_30 : SZ Tryd.prog 30 1 := ⟨Tryd.sizeOf30⟩
theorem zv_30 : ZV Tryd.prog 30 (.slice none 0 0) := ⟨fun w => Tryd.zeroValue30 w⟩
theorem et_30 : ET Tryd.prog 30 38 2 16 := ET.mk' Tryd.underlying30 Tryd.typeInfo38 rfl rfl rfl rfl
theorem se_30 : SE Tryd.prog 30 2 := ⟨⟨38, Tryd.underlying30, Tryd.sizeOf38⟩⟩
theorem ag_35 : AG Tryd.prog 35 1 := ⟨Tryd.isAgg35, Tryd.sizeOf35⟩
theorem sz_35 : SZ Tryd.prog 35 1 := ⟨Tryd.sizeOf35⟩
theorem zv_35 : ZV Tryd.prog 35 (.agg #[.slice none 0 0]) := ⟨fun w => Tryd.zeroValue35 w⟩
theorem fa_35_0 : FA Tryd.prog 35 0 0 := FA.mk' Tryd.underlying35 rfl rfl Tryd.sizeOf22
theorem fn_35_0 : FN Tryd.prog 35 0 0 := FN.mk' Tryd.underlying35 rfl rfl Tryd.isAgg22
theorem bd_35 : BD Tryd.prog 35 [(0, 1)] [.slice none 0 0] := BD.mk' Tryd.underlying35 Tryd.zeroValue35 ⟨rfl, Tryd.sizeOf22, trivial⟩
theorem ag_38 : AG Tryd.prog 38 2 := ⟨Tryd.isAgg38, Tryd.sizeOf38⟩
theorem sz_38 : SZ Tryd.prog 38 2 := ⟨Tryd.sizeOf38⟩
theorem zv_38 : ZV Tryd.prog 38 (.agg #[.int .i64 0, .int .i64 0]) := ⟨fun w => Tryd.zeroValue38 w⟩
theorem fa_38_0 : FA Tryd.prog 38 0 0 := FA.mk' Tryd.underlying38 rfl rfl Tryd.sizeOf3
theorem fn_38_0 : FN Tryd.prog 38 0 0 := FN.mk' Tryd.underlying38 rfl rfl Tryd.isAgg3
theorem fa_38_1 : FA Tryd.prog 38 1 1 := FA.mk' Tryd.underlying38 rfl rfl Tryd.sizeOf3
theorem fn_38_1 : FN Tryd.prog 38 1 1 := FN.mk' Tryd.underlying38 rfl rfl Tryd.isAgg3
theorem bd_38 : BD Tryd.prog 38 [(0, 1), (1, 1)] [.int .i64 0, .int .i64 0] := BD.mk' Tryd.underlying38 Tryd.zeroValue38 ⟨rfl, Tryd.sizeOf3, rfl, Tryd.sizeOf3, trivial⟩
theorem ag_40 : AG Tryd.prog 40 2 := ⟨Tryd.isAgg40, Tryd.sizeOf40⟩
theorem sz_40 : SZ Tryd.prog 40 2 := ⟨Tryd.sizeOf40⟩
theorem zv_40 : ZV Tryd.prog 40 (.agg #[.int .i64 0, .int .i64 0]) := ⟨fun w => Tryd.zeroValue40 w⟩
theorem fa_40_0 : FA Tryd.prog 40 0 0 := FA.mk' Tryd.underlying40 rfl rfl Tryd.sizeOf3
theorem fn_40_0 : FN Tryd.prog 40 0 0 := FN.mk' Tryd.underlying40 rfl rfl Tryd.isAgg3
theorem fa_40_1 : FA Tryd.prog 40 1 1 := FA.mk' Tryd.underlying40 rfl rfl Tryd.sizeOf3
theorem fn_40_1 : FN Tryd.prog 40 1 1 := FN.mk' Tryd.underlying40 rfl rfl Tryd.isAgg3
theorem bd_40 : BD Tryd.prog 40 [(0, 1), (1, 1)] [.int .i64 0, .int .i64 0] := BD.mk' Tryd.underlying40 Tryd.zeroValue40 ⟨rfl, Tryd.sizeOf3, rfl, Tryd.sizeOf3, trivial⟩
theorem ag_42 : AG Tryd.prog 42 5 := ⟨Tryd.isAgg42, Tryd.sizeOf42⟩
theorem sz_42 : SZ Tryd.prog 42 5 := ⟨Tryd.sizeOf42⟩
theorem zv_42 : ZV Tryd.prog 42 (.agg #[.int .i64 0, .int .i64 0, .int .i64 0, .int .i64 0, .string ⟨#[]⟩]) := ⟨fun w => Tryd.zeroValue42 w⟩
theorem fa_42_0 : FA Tryd.prog 42 0 0 := FA.mk' Tryd.underlying42 rfl rfl Tryd.sizeOf38
theorem fg_42_0 : FG Tryd.prog 42 0 0 2 := FG.mk' Tryd.underlying42 rfl rfl Tryd.isAgg38 Tryd.sizeOf38
theorem fa_42_1 : FA Tryd.prog 42 1 2 := FA.mk' Tryd.underlying42 rfl rfl Tryd.sizeOf40
theorem fg_42_1 : FG Tryd.prog 42 1 2 2 := FG.mk' Tryd.underlying42 rfl rfl Tryd.isAgg40 Tryd.sizeOf40
theorem fa_42_2 : FA Tryd.prog 42 2 4 := FA.mk' Tryd.underlying42 rfl rfl Tryd.sizeOf9
theorem fn_42_2 : FN Tryd.prog 42 2 4 := FN.mk' Tryd.underlying42 rfl rfl Tryd.isAgg9
theorem bd_42 : BD Tryd.prog 42 [(0, 2), (2, 2), (4, 1)] [.int .i64 0, .int .i64 0, .int .i64 0, .int .i64 0, .string ⟨#[]⟩] := BD.mk' Tryd.underlying42 Tryd.zeroValue42 ⟨rfl, Tryd.sizeOf38, rfl, Tryd.sizeOf40, rfl, Tryd.sizeOf9, trivial⟩
theorem ag_49 : AG Tryd.prog 49 3 := ⟨Tryd.isAgg49, Tryd.sizeOf49⟩
theorem sz_49 : SZ Tryd.prog 49 3 := ⟨Tryd.sizeOf49⟩
theorem zv_49 : ZV Tryd.prog 49 (.agg #[.int .i64 0, .int .i64 0, .int .i64 0]) := ⟨fun w => Tryd.zeroValue49 w⟩
theorem fa_49_0 : FA Tryd.prog 49 0 0 := FA.mk' Tryd.underlying49 rfl rfl Tryd.sizeOf3
theorem fn_49_0 : FN Tryd.prog 49 0 0 := FN.mk' Tryd.underlying49 rfl rfl Tryd.isAgg3
theorem fa_49_1 : FA Tryd.prog 49 1 1 := FA.mk' Tryd.underlying49 rfl rfl Tryd.sizeOf3
theorem fn_49_1 : FN Tryd.prog 49 1 1 := FN.mk' Tryd.underlying49 rfl rfl Tryd.isAgg3
theorem fa_49_2 : FA Tryd.prog 49 2 2 := FA.mk' Tryd.underlying49 rfl rfl Tryd.sizeOf3
theorem fn_49_2 : FN Tryd.prog 49 2 2 := FN.mk' Tryd.underlying49 rfl rfl Tryd.isAgg3
theorem bd_49 : BD Tryd.prog 49 [(0, 1), (1, 1), (2, 1)] [.int .i64 0, .int .i64 0, .int .i64 0] := BD.mk' Tryd.underlying49 Tryd.zeroValue49 ⟨rfl, Tryd.sizeOf3, rfl, Tryd.sizeOf3, rfl, Tryd.sizeOf3, trivial⟩
theorem na_50 : NA Tryd.prog 50 := ⟨Tryd.isAgg50⟩
theorem sz_50 : SZ Tryd.prog 50 1 := ⟨Tryd.sizeOf50⟩
theorem zv_50 : ZV Tryd.prog 50 (.slice none 0 0) := ⟨fun w => Tryd.zeroValue50 w⟩
theorem et_50 : ET Tryd.prog 50 49 3 24 := ET.mk' Tryd.underlying50 Tryd.typeInfo49 rfl rfl rfl rfl
theorem se_50 : SE Tryd.prog 50 3 := ⟨⟨49, Tryd.underlying50, Tryd.sizeOf49⟩⟩
theorem na_51 : NA Tryd.prog 51 := ⟨Tryd.isAgg51⟩
theorem sz_51 : SZ Tryd.prog 51 1 := ⟨Tryd.sizeOf51⟩
theorem zv_51 : ZV Tryd.prog 51 (.int .u64 0) := ⟨fun w => Tryd.zeroValue51 w⟩
theorem na_67 : NA Tryd.prog 67 := ⟨Tryd.isAgg67⟩
theorem sz_67 : SZ Tryd.prog 67 1 := ⟨Tryd.sizeOf67⟩
theorem zv_67 : ZV Tryd.prog 67 (.int .u64 0) := ⟨fun w => Tryd.zeroValue67 w⟩
theorem na_71 : NA Tryd.prog 71 := ⟨Tryd.isAgg71⟩
theorem sz_71 : SZ Tryd.prog 71 1 := ⟨Tryd.sizeOf71⟩
theorem zv_71 : ZV Tryd.prog 71 (.nilFunc) := ⟨fun w => Tryd.zeroValue71 w⟩
theorem na_76 : NA Tryd.prog 76 := ⟨Tryd.isAgg76⟩
theorem sz_76 : SZ Tryd.prog 76 1 := ⟨Tryd.sizeOf76⟩
theorem zv_76 : ZV Tryd.prog 76 (.nilFunc) := ⟨fun w => Tryd.zeroValue76 w⟩
theorem na_77 : NA Tryd.prog 77 := ⟨Tryd.isAgg77⟩
theorem sz_77 : SZ Tryd.prog 77 1 := ⟨Tryd.sizeOf77⟩
theorem zv_77 : ZV Tryd.prog 77 (.map none) := ⟨fun w => Tryd.zeroValue77 w⟩
theorem na_78 : NA Tryd.prog 78 := ⟨Tryd.isAgg78⟩
theorem sz_78 : SZ Tryd.prog 78 1 := ⟨Tryd.sizeOf78⟩
theorem zv_78 : ZV Tryd.prog 78 (.map none) := ⟨fun w => Tryd.zeroValue78 w⟩
theorem ag_80 : AG Tryd.prog 80 2 := ⟨Tryd.isAgg80, Tryd.sizeOf80⟩
theorem sz_80 : SZ Tryd.prog 80 2 := ⟨Tryd.sizeOf80⟩
theorem zv_80 : ZV Tryd.prog 80 (.agg #[.map none, .map none]) := ⟨fun w => Tryd.zeroValue80 w⟩
theorem fa_80_0 : FA Tryd.prog 80 0 0 := FA.mk' Tryd.underlying80 rfl rfl Tryd.sizeOf77
theorem fn_80_0 : FN Tryd.prog 80 0 0 := FN.mk' Tryd.underlying80 rfl rfl Tryd.isAgg77
theorem fa_80_1 : FA Tryd.prog 80 1 1 := FA.mk' Tryd.underlying80 rfl rfl Tryd.sizeOf78
theorem fn_80_1 : FN Tryd.prog 80 1 1 := FN.mk' Tryd.underlying80 rfl rfl Tryd.isAgg78
theorem bd_80 : BD Tryd.prog 80 [(0, 1), (1, 1)] [.map none, .map none] := BD.mk' Tryd.underlying80 Tryd.zeroValue80 ⟨rfl, Tryd.sizeOf77, rfl, Tryd.sizeOf78, trivial⟩
theorem na_82 : NA Tryd.prog 82 := ⟨Tryd.isAgg82⟩
theorem sz_82 : SZ Tryd.prog 82 1 := ⟨Tryd.sizeOf82⟩
theorem zv_82 : ZV Tryd.prog 82 (.slice none 0 0) := ⟨fun w => Tryd.zeroValue82 w⟩
theorem et_82 : ET Tryd.prog 82 5 1 1 := ET.mk' Tryd.underlying82 Tryd.typeInfo5 rfl rfl rfl rfl
theorem se_82 : SE Tryd.prog 82 1 := ⟨⟨5, Tryd.underlying82, Tryd.sizeOf5⟩⟩
theorem na_83 : NA Tryd.prog 83 := ⟨Tryd.isAgg83⟩
theorem sz_83 : SZ Tryd.prog 83 1 := ⟨Tryd.sizeOf83⟩
theorem zv_83 : ZV Tryd.prog 83 (.int .i64 0) := ⟨fun w => Tryd.zeroValue83 w⟩
theorem ag_87 : AG Tryd.prog 87 6 := ⟨Tryd.isAgg87, Tryd.sizeOf87⟩
theorem sz_87 : SZ Tryd.prog 87 6 := ⟨Tryd.sizeOf87⟩
theorem zv_87 : ZV Tryd.prog 87 (.agg #[.int .i64 0, .int .i64 0, .int .i64 0, .int .i64 0, .string ⟨#[]⟩, .int .u64 0]) := ⟨fun w => Tryd.zeroValue87 w⟩
theorem fa_87_0 : FA Tryd.prog 87 0 0 := FA.mk' Tryd.underlying87 rfl rfl Tryd.sizeOf42
theorem fg_87_0 : FG Tryd.prog 87 0 0 5 := FG.mk' Tryd.underlying87 rfl rfl Tryd.isAgg42 Tryd.sizeOf42
theorem fa_87_1 : FA Tryd.prog 87 1 5 := FA.mk' Tryd.underlying87 rfl rfl Tryd.sizeOf51
theorem fn_87_1 : FN Tryd.prog 87 1 5 := FN.mk' Tryd.underlying87 rfl rfl Tryd.isAgg51
theorem bd_87 : BD Tryd.prog 87 [(0, 5), (5, 1)] [.int .i64 0, .int .i64 0, .int .i64 0, .int .i64 0, .string ⟨#[]⟩, .int .u64 0] := BD.mk' Tryd.underlying87 Tryd.zeroValue87 ⟨rfl, Tryd.sizeOf42, rfl, Tryd.sizeOf51, trivial⟩
theorem na_96 : NA Tryd.prog 96 := ⟨Tryd.isAgg96⟩
theorem sz_96 : SZ Tryd.prog 96 1 := ⟨Tryd.sizeOf96⟩
theorem zv_96 : ZV Tryd.prog 96 (.slice none 0 0) := ⟨fun w => Tryd.zeroValue96 w⟩
theorem et_96 : ET Tryd.prog 96 51 1 8 := ET.mk' Tryd.underlying96 Tryd.typeInfo51 rfl rfl rfl rfl
theorem se_96 : SE Tryd.prog 96 1 := ⟨⟨51, Tryd.underlying96, Tryd.sizeOf51⟩⟩
theorem ag_100 : AG Tryd.prog 100 3 := ⟨Tryd.isAgg100, Tryd.sizeOf100⟩
theorem sz_100 : SZ Tryd.prog 100 3 := ⟨Tryd.sizeOf100⟩
theorem zv_100 : ZV Tryd.prog 100 (.agg #[.int .i64 0, .int .i64 0, .int .i64 0]) := ⟨fun w => Tryd.zeroValue100 w⟩
theorem fa_100_0 : FA Tryd.prog 100 0 0 := FA.mk' Tryd.underlying100 rfl rfl Tryd.sizeOf3
theorem fn_100_0 : FN Tryd.prog 100 0 0 := FN.mk' Tryd.underlying100 rfl rfl Tryd.isAgg3
theorem fa_100_1 : FA Tryd.prog 100 1 1 := FA.mk' Tryd.underlying100 rfl rfl Tryd.sizeOf3
theorem fn_100_1 : FN Tryd.prog 100 1 1 := FN.mk' Tryd.underlying100 rfl rfl Tryd.isAgg3
theorem fa_100_2 : FA Tryd.prog 100 2 2 := FA.mk' Tryd.underlying100 rfl rfl Tryd.sizeOf3
theorem fn_100_2 : FN Tryd.prog 100 2 2 := FN.mk' Tryd.underlying100 rfl rfl Tryd.isAgg3
theorem bd_100 : BD Tryd.prog 100 [(0, 1), (1, 1), (2, 1)] [.int .i64 0, .int .i64 0, .int .i64 0] := BD.mk' Tryd.underlying100 Tryd.zeroValue100 ⟨rfl, Tryd.sizeOf3, rfl, Tryd.sizeOf3, rfl, Tryd.sizeOf3, trivial⟩
theorem na_102 : NA Tryd.prog 102 := ⟨Tryd.isAgg102⟩
theorem sz_102 : SZ Tryd.prog 102 1 := ⟨Tryd.sizeOf102⟩
theorem zv_102 : ZV Tryd.prog 102 (.slice none 0 0) := ⟨fun w => Tryd.zeroValue102 w⟩
theorem et_102 : ET Tryd.prog 102 82 1 24 := ET.mk' Tryd.underlying102 Tryd.typeInfo82 rfl rfl rfl rfl
theorem se_102 : SE Tryd.prog 102 1 := ⟨⟨82, Tryd.underlying102, Tryd.sizeOf82⟩⟩
theorem na_107 : NA Tryd.prog 107 := ⟨Tryd.isAgg107⟩
theorem sz_107 : SZ Tryd.prog 107 1 := ⟨Tryd.sizeOf107⟩
theorem zv_107 : ZV Tryd.prog 107 (.int .i64 0) := ⟨fun w => Tryd.zeroValue107 w⟩
theorem na_115 : NA Tryd.prog 115 := ⟨Tryd.isAgg115⟩
theorem sz_115 : SZ Tryd.prog 115 1 := ⟨Tryd.sizeOf115⟩
theorem zv_115 : ZV Tryd.prog 115 (.int .u32 0) := ⟨fun w => Tryd.zeroValue115 w⟩
theorem na_120 : NA Tryd.prog 120 := ⟨Tryd.isAgg120⟩
theorem sz_120 : SZ Tryd.prog 120 1 := ⟨Tryd.sizeOf120⟩
theorem zv_120 : ZV Tryd.prog 120 (.int .u64 0) := ⟨fun w => Tryd.zeroValue120 w⟩
theorem na_124 : NA Tryd.prog 124 := ⟨Tryd.isAgg124⟩
theorem sz_124 : SZ Tryd.prog 124 1 := ⟨Tryd.sizeOf124⟩
theorem zv_124 : ZV Tryd.prog 124 (.pointer none) := ⟨fun w => Tryd.zeroValue124 w⟩
theorem ag_129 : AG Tryd.prog 129 256 := ⟨Tryd.isAgg129, Tryd.sizeOf129⟩
theorem sz_129 : SZ Tryd.prog 129 256 := ⟨Tryd.sizeOf129⟩
theorem ag_131 : AG Tryd.prog 131 2 := ⟨Tryd.isAgg131, Tryd.sizeOf131⟩
theorem sz_131 : SZ Tryd.prog 131 2 := ⟨Tryd.sizeOf131⟩
theorem zv_131 : ZV Tryd.prog 131 (.agg #[.int .u8 0, .int .u8 0]) := ⟨fun w => Tryd.zeroValue131 w⟩
theorem fa_131_0 : FA Tryd.prog 131 0 0 := FA.mk' Tryd.underlying131 rfl rfl Tryd.sizeOf5
theorem fn_131_0 : FN Tryd.prog 131 0 0 := FN.mk' Tryd.underlying131 rfl rfl Tryd.isAgg5
theorem fa_131_1 : FA Tryd.prog 131 1 1 := FA.mk' Tryd.underlying131 rfl rfl Tryd.sizeOf5
theorem fn_131_1 : FN Tryd.prog 131 1 1 := FN.mk' Tryd.underlying131 rfl rfl Tryd.isAgg5
theorem bd_131 : BD Tryd.prog 131 [(0, 1), (1, 1)] [.int .u8 0, .int .u8 0] := BD.mk' Tryd.underlying131 Tryd.zeroValue131 ⟨rfl, Tryd.sizeOf5, rfl, Tryd.sizeOf5, trivial⟩
theorem ag_132 : AG Tryd.prog 132 32 := ⟨Tryd.isAgg132, Tryd.sizeOf132⟩
theorem sz_132 : SZ Tryd.prog 132 32 := ⟨Tryd.sizeOf132⟩
theorem zv_132 : ZV Tryd.prog 132 (.agg #[.int .u8 0, .int .u8 0, .int .u8 0, .int .u8 0, .int .u8 0, .int .u8 0, .int .u8 0, .int .u8 0, .int .u8 0, .int .u8 0, .int .u8 0, .int .u8 0, .int .u8 0, .int .u8 0, .int .u8 0, .int .u8 0, .int .u8 0, .int .u8 0, .int .u8 0, .int .u8 0, .int .u8 0, .int .u8 0, .int .u8 0, .int .u8 0, .int .u8 0, .int .u8 0, .int .u8 0, .int .u8 0, .int .u8 0, .int .u8 0, .int .u8 0, .int .u8 0]) := ⟨fun w => Tryd.zeroValue132 w⟩
theorem mixed : Tryd.prog.follows .mixedOrders = true := by kernel_rfl
end Go.Proofs.YthlnjkfahmebjaaDoor
