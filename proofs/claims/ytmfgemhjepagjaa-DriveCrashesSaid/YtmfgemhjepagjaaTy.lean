/- Facts on the program's types, printed by wip/gen/gen.py. -/
import Derived.Test.YtmfgemhjepagjaaProg
import Derived.Test.YtmfgemhjepagjaaRg
import Derived.Test.YtmfgemhjepagjaaMore
namespace Go.Proofs.Ytmfgemhjepagjaa
open Go Go.Sl
set_option maxRecDepth 100000
theorem na_3 : NA Try.prog 3 := ⟨Try.isAgg3⟩
theorem sz_3 : SZ Try.prog 3 1 := ⟨Try.sizeOf3⟩
theorem zv_3 : ZV Try.prog 3 (.int .i64 0) := ⟨fun w => Try.zeroValue3 w⟩
theorem na_4 : NA Try.prog 4 := ⟨Try.isAgg4⟩
theorem sz_4 : SZ Try.prog 4 1 := ⟨Try.sizeOf4⟩
theorem zv_4 : ZV Try.prog 4 (.bool false) := ⟨fun w => Try.zeroValue4 w⟩
theorem na_5 : NA Try.prog 5 := ⟨Try.isAgg5⟩
theorem sz_5 : SZ Try.prog 5 1 := ⟨Try.sizeOf5⟩
theorem zv_5 : ZV Try.prog 5 (.int .u8 0) := ⟨fun w => Try.zeroValue5 w⟩
theorem na_9 : NA Try.prog 9 := ⟨Try.isAgg9⟩
theorem sz_9 : SZ Try.prog 9 1 := ⟨Try.sizeOf9⟩
theorem zv_9 : ZV Try.prog 9 (.string ⟨#[]⟩) := ⟨fun w => Try.zeroValue9 w⟩
theorem na_21 : NA Try.prog 21 := ⟨Try.isAgg21⟩
theorem sz_21 : SZ Try.prog 21 1 := ⟨Try.sizeOf21⟩
theorem zv_21 : ZV Try.prog 21 (.int .i32 0) := ⟨fun w => Try.zeroValue21 w⟩
theorem na_22 : NA Try.prog 22 := ⟨Try.isAgg22⟩
theorem sz_22 : SZ Try.prog 22 1 := ⟨Try.sizeOf22⟩
theorem zv_22 : ZV Try.prog 22 (.slice none 0 0) := ⟨fun w => Try.zeroValue22 w⟩
theorem et_22 : ET Try.prog 22 5 1 1 := ET.mk' Try.underlying22 Try.typeInfo5 rfl rfl rfl rfl
theorem se_22 : SE Try.prog 22 1 := ⟨⟨5, Try.underlying22, Try.sizeOf5⟩⟩
theorem na_24 : NA Try.prog 24 := ⟨Try.isAgg24⟩
theorem sz_24 : SZ Try.prog 24 1 := ⟨Try.sizeOf24⟩
theorem zv_24 : ZV Try.prog 24 (.pointer none) := ⟨fun w => Try.zeroValue24 w⟩
theorem na_26 : NA Try.prog 26 := ⟨Try.isAgg26⟩
theorem sz_26 : SZ Try.prog 26 1 := ⟨Try.sizeOf26⟩
theorem zv_26 : ZV Try.prog 26 (.int .i64 0) := ⟨fun w => Try.zeroValue26 w⟩
theorem na_36 : NA Try.prog 36 := ⟨Try.isAgg36⟩
theorem sz_36 : SZ Try.prog 36 1 := ⟨Try.sizeOf36⟩
theorem zv_36 : ZV Try.prog 36 (.slice none 0 0) := ⟨fun w => Try.zeroValue36 w⟩
theorem et_36 : ET Try.prog 36 22 1 24 := ET.mk' Try.underlying36 Try.typeInfo22 rfl rfl rfl rfl
theorem se_36 : SE Try.prog 36 1 := ⟨⟨22, Try.underlying36, Try.sizeOf22⟩⟩
theorem na_37 : NA Try.prog 37 := ⟨Try.isAgg37⟩
theorem sz_37 : SZ Try.prog 37 1 := ⟨Try.sizeOf37⟩
theorem zv_37 : ZV Try.prog 37 (.slice none 0 0) := ⟨fun w => Try.zeroValue37 w⟩
theorem et_37 : ET Try.prog 37 9 1 16 := ET.mk' Try.underlying37 Try.typeInfo9 rfl rfl rfl rfl
theorem se_37 : SE Try.prog 37 1 := ⟨⟨9, Try.underlying37, Try.sizeOf9⟩⟩
theorem na_44 : NA Try.prog 44 := ⟨Try.isAgg44⟩
theorem sz_44 : SZ Try.prog 44 1 := ⟨Try.sizeOf44⟩
theorem zv_44 : ZV Try.prog 44 (.slice none 0 0) := ⟨fun w => Try.zeroValue44 w⟩
theorem et_44 : ET Try.prog 44 3 1 8 := ET.mk' Try.underlying44 Try.typeInfo3 rfl rfl rfl rfl
theorem se_44 : SE Try.prog 44 1 := ⟨⟨3, Try.underlying44, Try.sizeOf3⟩⟩
theorem na_49 : NA Try.prog 49 := ⟨Try.isAgg49⟩
theorem sz_49 : SZ Try.prog 49 1 := ⟨Try.sizeOf49⟩
theorem zv_49 : ZV Try.prog 49 (.map none) := ⟨fun w => Try.zeroValue49 w⟩
theorem ag_51 : AG Try.prog 51 2 := ⟨Try.isAgg51, Try.sizeOf51⟩
theorem sz_51 : SZ Try.prog 51 2 := ⟨Try.sizeOf51⟩
theorem zv_51 : ZV Try.prog 51 (.agg #[.int .i64 0, .map none]) := ⟨fun w => Try.zeroValue51 w⟩
theorem fa_51_0 : FA Try.prog 51 0 0 := FA.mk' Try.underlying51 rfl rfl Try.sizeOf3
theorem fn_51_0 : FN Try.prog 51 0 0 := FN.mk' Try.underlying51 rfl rfl Try.isAgg3
theorem fa_51_1 : FA Try.prog 51 1 1 := FA.mk' Try.underlying51 rfl rfl Try.sizeOf49
theorem fn_51_1 : FN Try.prog 51 1 1 := FN.mk' Try.underlying51 rfl rfl Try.isAgg49
theorem bd_51 : BD Try.prog 51 [(0, 1), (1, 1)] [.int .i64 0, .map none] := BD.mk' Try.underlying51 Try.zeroValue51 ⟨rfl, Try.sizeOf3, rfl, Try.sizeOf49, trivial⟩
theorem na_53 : NA Try.prog 53 := ⟨Try.isAgg53⟩
theorem sz_53 : SZ Try.prog 53 1 := ⟨Try.sizeOf53⟩
theorem zv_53 : ZV Try.prog 53 (.pointer none) := ⟨fun w => Try.zeroValue53 w⟩
theorem ag_55 : AG Try.prog 55 2 := ⟨Try.isAgg55, Try.sizeOf55⟩
theorem sz_55 : SZ Try.prog 55 2 := ⟨Try.sizeOf55⟩
theorem zv_55 : ZV Try.prog 55 (.agg #[.slice none 0 0, .int .i64 0]) := ⟨fun w => Try.zeroValue55 w⟩
theorem fa_55_0 : FA Try.prog 55 0 0 := FA.mk' Try.underlying55 rfl rfl Try.sizeOf22
theorem fn_55_0 : FN Try.prog 55 0 0 := FN.mk' Try.underlying55 rfl rfl Try.isAgg22
theorem fa_55_1 : FA Try.prog 55 1 1 := FA.mk' Try.underlying55 rfl rfl Try.sizeOf3
theorem fn_55_1 : FN Try.prog 55 1 1 := FN.mk' Try.underlying55 rfl rfl Try.isAgg3
theorem bd_55 : BD Try.prog 55 [(0, 1), (1, 1)] [.slice none 0 0, .int .i64 0] := BD.mk' Try.underlying55 Try.zeroValue55 ⟨rfl, Try.sizeOf22, rfl, Try.sizeOf3, trivial⟩
theorem na_59 : NA Try.prog 59 := ⟨Try.isAgg59⟩
theorem sz_59 : SZ Try.prog 59 1 := ⟨Try.sizeOf59⟩
theorem zv_59 : ZV Try.prog 59 (.int .u64 0) := ⟨fun w => Try.zeroValue59 w⟩
theorem na_62 : NA Try.prog 62 := ⟨Try.isAgg62⟩
theorem sz_62 : SZ Try.prog 62 1 := ⟨Try.sizeOf62⟩
theorem zv_62 : ZV Try.prog 62 (.nilFunc) := ⟨fun w => Try.zeroValue62 w⟩
theorem na_65 : NA Try.prog 65 := ⟨Try.isAgg65⟩
theorem sz_65 : SZ Try.prog 65 1 := ⟨Try.sizeOf65⟩
theorem zv_65 : ZV Try.prog 65 (.nilFunc) := ⟨fun w => Try.zeroValue65 w⟩
theorem na_78 : NA Try.prog 78 := ⟨Try.isAgg78⟩
theorem sz_78 : SZ Try.prog 78 1 := ⟨Try.sizeOf78⟩
theorem zv_78 : ZV Try.prog 78 (.int .i64 0) := ⟨fun w => Try.zeroValue78 w⟩
theorem na_87 : NA Try.prog 87 := ⟨Try.isAgg87⟩
theorem sz_87 : SZ Try.prog 87 1 := ⟨Try.sizeOf87⟩
theorem zv_87 : ZV Try.prog 87 (.int .u32 0) := ⟨fun w => Try.zeroValue87 w⟩
theorem na_89 : NA Try.prog 89 := ⟨Try.isAgg89⟩
theorem sz_89 : SZ Try.prog 89 1 := ⟨Try.sizeOf89⟩
theorem zv_89 : ZV Try.prog 89 (.int .u64 0) := ⟨fun w => Try.zeroValue89 w⟩
theorem na_90 : NA Try.prog 90 := ⟨Try.isAgg90⟩
theorem sz_90 : SZ Try.prog 90 1 := ⟨Try.sizeOf90⟩
theorem zv_90 : ZV Try.prog 90 (.int .u64 0) := ⟨fun w => Try.zeroValue90 w⟩
theorem na_94 : NA Try.prog 94 := ⟨Try.isAgg94⟩
theorem sz_94 : SZ Try.prog 94 1 := ⟨Try.sizeOf94⟩
theorem zv_94 : ZV Try.prog 94 (.pointer none) := ⟨fun w => Try.zeroValue94 w⟩
theorem mixed : Try.prog.follows .mixedOrders = true := by kernel_rfl
end Go.Proofs.Ytmfgemhjepagjaa
