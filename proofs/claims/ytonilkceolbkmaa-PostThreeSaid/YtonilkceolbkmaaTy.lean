/- Facts on the program's types, printed by wip/gen/gen.py. -/
import Derived.Test.YtonilkceolbkmaaProg
import Derived.Test.YtonilkceolbkmaaRg
import Derived.Test.YtonilkceolbkmaaMore
namespace Go.Proofs.Ytonilkceolbkmaa
open Go Go.Sl
set_option maxRecDepth 100000
theorem na_3 : NA Try.prog 3 := ⟨Try.isAgg3⟩
theorem sz_3 : SZ Try.prog 3 1 := ⟨Try.sizeOf3⟩
theorem zv_3 : ZV Try.prog 3 (.int .i64 0) := ⟨fun w => Try.zeroValue3 w⟩
theorem na_4 : NA Try.prog 4 := ⟨Try.isAgg4⟩
theorem sz_4 : SZ Try.prog 4 1 := ⟨Try.sizeOf4⟩
theorem zv_4 : ZV Try.prog 4 (.bool false) := ⟨fun w => Try.zeroValue4 w⟩
theorem na_5 : NA Try.prog 5 := ⟨Try.isAgg5⟩
theorem sz_5 : SZ Try.prog 5 1 := ⟨Try.sizeOf5⟩
theorem zv_5 : ZV Try.prog 5 (.int .u8 0) := ⟨fun w => Try.zeroValue5 w⟩
theorem na_9 : NA Try.prog 9 := ⟨Try.isAgg9⟩
theorem sz_9 : SZ Try.prog 9 1 := ⟨Try.sizeOf9⟩
theorem zv_9 : ZV Try.prog 9 (.string ⟨#[]⟩) := ⟨fun w => Try.zeroValue9 w⟩
theorem na_22 : NA Try.prog 22 := ⟨Try.isAgg22⟩
theorem sz_22 : SZ Try.prog 22 1 := ⟨Try.sizeOf22⟩
theorem zv_22 : ZV Try.prog 22 (.slice none 0 0) := ⟨fun w => Try.zeroValue22 w⟩
theorem et_22 : ET Try.prog 22 30 1 24 := ET.mk' Try.underlying22 Try.typeInfo30 rfl rfl rfl rfl
theorem se_22 : SE Try.prog 22 1 := ⟨⟨30, Try.underlying22, Try.sizeOf30⟩⟩
theorem na_25 : NA Try.prog 25 := ⟨Try.isAgg25⟩
theorem sz_25 : SZ Try.prog 25 1 := ⟨Try.sizeOf25⟩
theorem zv_25 : ZV Try.prog 25 (.slice none 0 0) := ⟨fun w => Try.zeroValue25 w⟩
theorem et_25 : ET Try.prog 25 34 2 16 := ET.mk' Try.underlying25 Try.typeInfo34 rfl rfl rfl rfl
theorem se_25 : SE Try.prog 25 2 := ⟨⟨34, Try.underlying25, Try.sizeOf34⟩⟩
theorem na_29 : NA Try.prog 29 := ⟨Try.isAgg29⟩
theorem sz_29 : SZ Try.prog 29 1 := ⟨Try.sizeOf29⟩
theorem zv_29 : ZV Try.prog 29 (.nilFunc) := ⟨fun w => Try.zeroValue29 w⟩
theorem na_30 : NA Try.prog 30 := ⟨Try.isAgg30⟩
theorem sz_30 : SZ Try.prog 30 1 := ⟨Try.sizeOf30⟩
theorem zv_30 : ZV Try.prog 30 (.slice none 0 0) := ⟨fun w => Try.zeroValue30 w⟩
theorem et_30 : ET Try.prog 30 37 3 40 := ET.mk' Try.underlying30 Try.typeInfo37 rfl rfl rfl rfl
theorem se_30 : SE Try.prog 30 3 := ⟨⟨37, Try.underlying30, Try.sizeOf37⟩⟩
theorem ag_34 : AG Try.prog 34 2 := ⟨Try.isAgg34, Try.sizeOf34⟩
theorem sz_34 : SZ Try.prog 34 2 := ⟨Try.sizeOf34⟩
theorem zv_34 : ZV Try.prog 34 (.agg #[.int .i64 0, .int .i64 0]) := ⟨fun w => Try.zeroValue34 w⟩
theorem fa_34_0 : FA Try.prog 34 0 0 := FA.mk' Try.underlying34 rfl rfl Try.sizeOf3
theorem fn_34_0 : FN Try.prog 34 0 0 := FN.mk' Try.underlying34 rfl rfl Try.isAgg3
theorem fa_34_1 : FA Try.prog 34 1 1 := FA.mk' Try.underlying34 rfl rfl Try.sizeOf3
theorem fn_34_1 : FN Try.prog 34 1 1 := FN.mk' Try.underlying34 rfl rfl Try.isAgg3
theorem bd_34 : BD Try.prog 34 [(0, 1), (1, 1)] [.int .i64 0, .int .i64 0] := BD.mk' Try.underlying34 Try.zeroValue34 ⟨rfl, Try.sizeOf3, rfl, Try.sizeOf3, trivial⟩
theorem na_35 : NA Try.prog 35 := ⟨Try.isAgg35⟩
theorem sz_35 : SZ Try.prog 35 1 := ⟨Try.sizeOf35⟩
theorem zv_35 : ZV Try.prog 35 (.slice none 0 0) := ⟨fun w => Try.zeroValue35 w⟩
theorem et_35 : ET Try.prog 35 3 1 8 := ET.mk' Try.underlying35 Try.typeInfo3 rfl rfl rfl rfl
theorem se_35 : SE Try.prog 35 1 := ⟨⟨3, Try.underlying35, Try.sizeOf3⟩⟩
theorem ag_37 : AG Try.prog 37 3 := ⟨Try.isAgg37, Try.sizeOf37⟩
theorem sz_37 : SZ Try.prog 37 3 := ⟨Try.sizeOf37⟩
theorem zv_37 : ZV Try.prog 37 (.agg #[.int .i64 0, .int .i64 0, .slice none 0 0]) := ⟨fun w => Try.zeroValue37 w⟩
theorem fa_37_0 : FA Try.prog 37 0 0 := FA.mk' Try.underlying37 rfl rfl Try.sizeOf34
theorem fg_37_0 : FG Try.prog 37 0 0 2 := FG.mk' Try.underlying37 rfl rfl Try.isAgg34 Try.sizeOf34
theorem fa_37_1 : FA Try.prog 37 1 2 := FA.mk' Try.underlying37 rfl rfl Try.sizeOf35
theorem fn_37_1 : FN Try.prog 37 1 2 := FN.mk' Try.underlying37 rfl rfl Try.isAgg35
theorem bd_37 : BD Try.prog 37 [(0, 2), (2, 1)] [.int .i64 0, .int .i64 0, .slice none 0 0] := BD.mk' Try.underlying37 Try.zeroValue37 ⟨rfl, Try.sizeOf34, rfl, Try.sizeOf35, trivial⟩
theorem na_50 : NA Try.prog 50 := ⟨Try.isAgg50⟩
theorem sz_50 : SZ Try.prog 50 1 := ⟨Try.sizeOf50⟩
theorem zv_50 : ZV Try.prog 50 (.nilFunc) := ⟨fun w => Try.zeroValue50 w⟩
theorem na_51 : NA Try.prog 51 := ⟨Try.isAgg51⟩
theorem sz_51 : SZ Try.prog 51 1 := ⟨Try.sizeOf51⟩
theorem zv_51 : ZV Try.prog 51 (.nilFunc) := ⟨fun w => Try.zeroValue51 w⟩
theorem na_57 : NA Try.prog 57 := ⟨Try.isAgg57⟩
theorem sz_57 : SZ Try.prog 57 1 := ⟨Try.sizeOf57⟩
theorem zv_57 : ZV Try.prog 57 (.nilFunc) := ⟨fun w => Try.zeroValue57 w⟩
theorem na_71 : NA Try.prog 71 := ⟨Try.isAgg71⟩
theorem sz_71 : SZ Try.prog 71 1 := ⟨Try.sizeOf71⟩
theorem zv_71 : ZV Try.prog 71 (.int .u64 0) := ⟨fun w => Try.zeroValue71 w⟩
theorem na_74 : NA Try.prog 74 := ⟨Try.isAgg74⟩
theorem sz_74 : SZ Try.prog 74 1 := ⟨Try.sizeOf74⟩
theorem zv_74 : ZV Try.prog 74 (.nilFunc) := ⟨fun w => Try.zeroValue74 w⟩
theorem na_80 : NA Try.prog 80 := ⟨Try.isAgg80⟩
theorem sz_80 : SZ Try.prog 80 1 := ⟨Try.sizeOf80⟩
theorem zv_80 : ZV Try.prog 80 (.int .i64 0) := ⟨fun w => Try.zeroValue80 w⟩
theorem na_87 : NA Try.prog 87 := ⟨Try.isAgg87⟩
theorem sz_87 : SZ Try.prog 87 1 := ⟨Try.sizeOf87⟩
theorem zv_87 : ZV Try.prog 87 (.int .u32 0) := ⟨fun w => Try.zeroValue87 w⟩
theorem na_89 : NA Try.prog 89 := ⟨Try.isAgg89⟩
theorem sz_89 : SZ Try.prog 89 1 := ⟨Try.sizeOf89⟩
theorem zv_89 : ZV Try.prog 89 (.int .u64 0) := ⟨fun w => Try.zeroValue89 w⟩
theorem na_92 : NA Try.prog 92 := ⟨Try.isAgg92⟩
theorem sz_92 : SZ Try.prog 92 1 := ⟨Try.sizeOf92⟩
theorem zv_92 : ZV Try.prog 92 (.int .u64 0) := ⟨fun w => Try.zeroValue92 w⟩
theorem na_96 : NA Try.prog 96 := ⟨Try.isAgg96⟩
theorem sz_96 : SZ Try.prog 96 1 := ⟨Try.sizeOf96⟩
theorem zv_96 : ZV Try.prog 96 (.pointer none) := ⟨fun w => Try.zeroValue96 w⟩
theorem mixed : Try.prog.follows .mixedOrders = true := by kernel_rfl
end Go.Proofs.Ytonilkceolbkmaa
