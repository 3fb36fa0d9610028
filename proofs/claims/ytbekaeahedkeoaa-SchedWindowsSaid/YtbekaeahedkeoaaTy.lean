
/-
  The sizes of the program's types, as instances.
-/
import Derived.Test.YtbekaeahedkeoaaRows
import Derived.Test.YtbekaeahedkeoaaAuto
namespace Go.Proofs.Ytbekaeahedkeoaa
open Go.RowKit Go.Sl
section
set_option maxRecDepth 100000
instance tyOne_2 : TyOne Try.prog 2 := tyOne_mk Try.underlying2 (by kernel_rfl) rfl
instance tyOne_3 : TyOne Try.prog 3 := tyOne_mk Try.underlying3 (by kernel_rfl) rfl
instance tyOne_4 : TyOne Try.prog 4 := tyOne_mk Try.underlying4 (by kernel_rfl) rfl
instance tyOne_5 : TyOne Try.prog 5 := tyOne_mk Try.underlying5 (by kernel_rfl) rfl
instance tyOne_6 : TyOne Try.prog 6 := tyOne_mk Try.underlying6 (by kernel_rfl) rfl
instance tyS_7 : TyS Try.prog 7 4 := ⟨by kernel_rfl, _, Try.underlying7⟩
instance tyS_8 : TyS Try.prog 8 4 := ⟨by kernel_rfl, _, Try.underlying8⟩
instance tyStr_9 : TyStr Try.prog 9 := ⟨Try.underlying9⟩
instance tyOne_9 : TyOne Try.prog 9 := tyOne_mk Try.underlying9 (by kernel_rfl) rfl
instance tyStr_10 : TyStr Try.prog 10 := ⟨Try.underlying10⟩
instance tyOne_10 : TyOne Try.prog 10 := tyOne_mk Try.underlying10 (by kernel_rfl) rfl
instance tyStr_11 : TyStr Try.prog 11 := ⟨Try.underlying11⟩
instance tyOne_11 : TyOne Try.prog 11 := tyOne_mk Try.underlying11 (by kernel_rfl) rfl
instance tyOne_12 : TyOne Try.prog 12 := tyOne_mk Try.underlying12 (by kernel_rfl) rfl
instance tyS_13 : TyS Try.prog 13 2 := ⟨by kernel_rfl, _, Try.underlying13⟩
instance tyS_14 : TyS Try.prog 14 2 := ⟨by kernel_rfl, _, Try.underlying14⟩
instance tyOne_15 : TyOne Try.prog 15 := tyOne_mk Try.underlying15 (by kernel_rfl) rfl
instance tyOne_16 : TyOne Try.prog 16 := tyOne_mk Try.underlying16 (by kernel_rfl) rfl
instance tyOne_17 : TyOne Try.prog 17 := tyOne_mk Try.underlying17 (by kernel_rfl) rfl
instance tyS_18 : TyS Try.prog 18 1 := ⟨by kernel_rfl, _, Try.underlying18⟩
instance tyS_19 : TyS Try.prog 19 1 := ⟨by kernel_rfl, _, Try.underlying19⟩
instance tyOne_21 : TyOne Try.prog 21 := tyOne_mk Try.underlying21 (by kernel_rfl) rfl
instance tyApp_22 : TyApp Try.prog 22 44 3 24 (.agg #[.int .i64 0, .int .i64 0, .bool false]) := ⟨isSl_mk Try.underlying22 (by kernel_rfl) rfl (by decide)⟩
instance tySl_22 : TySl Try.prog 22 3 := tySl_mk Try.underlying22 (by kernel_rfl)
instance tyOne_22 : TyOne Try.prog 22 := tyOne_mk Try.underlying22 (by kernel_rfl) rfl
instance tyApp_23 : TyApp Try.prog 23 30 1 24 (.slice none 0 0) := ⟨isSl_mk Try.underlying23 (by kernel_rfl) rfl (by decide)⟩
instance tySl_23 : TySl Try.prog 23 1 := tySl_mk Try.underlying23 (by kernel_rfl)
instance tyOne_23 : TyOne Try.prog 23 := tyOne_mk Try.underlying23 (by kernel_rfl) rfl
instance tyApp_24 : TyApp Try.prog 24 3 1 8 (.int .i64 0) := ⟨isSl_mk Try.underlying24 (by kernel_rfl) rfl (by decide)⟩
instance tySl_24 : TySl Try.prog 24 1 := tySl_mk Try.underlying24 (by kernel_rfl)
instance tyOne_24 : TyOne Try.prog 24 := tyOne_mk Try.underlying24 (by kernel_rfl) rfl
instance tyOne_26 : TyOne Try.prog 26 := tyOne_mk Try.underlying26 (by kernel_rfl) rfl
instance tyApp_29 : TyApp Try.prog 29 9 1 16 (.string ⟨#[]⟩) := ⟨isSl_mk Try.underlying29 (by kernel_rfl) rfl (by decide)⟩
instance tySl_29 : TySl Try.prog 29 1 := tySl_mk Try.underlying29 (by kernel_rfl)
instance tyOne_29 : TyOne Try.prog 29 := tyOne_mk Try.underlying29 (by kernel_rfl) rfl
instance tyApp_30 : TyApp Try.prog 30 5 1 1 (.int .u8 0) := ⟨isSl_mk Try.underlying30 (by kernel_rfl) rfl (by decide)⟩
instance tySl_30 : TySl Try.prog 30 1 := tySl_mk Try.underlying30 (by kernel_rfl)
instance tyBytes_30 : TyBytes Try.prog 30 := ⟨_, Try.underlying30, Try.underlying5⟩
instance tyOne_30 : TyOne Try.prog 30 := tyOne_mk Try.underlying30 (by kernel_rfl) rfl
instance tyS_34 : TyS Try.prog 34 4 := ⟨by kernel_rfl, _, Try.underlying34⟩
instance tyS_35 : TyS Try.prog 35 4 := ⟨by kernel_rfl, _, Try.underlying35⟩
instance tyS_43 : TyS Try.prog 43 3 := ⟨by kernel_rfl, _, Try.underlying43⟩
instance tyS_44 : TyS Try.prog 44 3 := ⟨by kernel_rfl, _, Try.underlying44⟩
instance tyApp_46 : TyApp Try.prog 46 4 1 1 (.bool false) := ⟨isSl_mk Try.underlying46 (by kernel_rfl) rfl (by decide)⟩
instance tySl_46 : TySl Try.prog 46 1 := tySl_mk Try.underlying46 (by kernel_rfl)
instance tyOne_46 : TyOne Try.prog 46 := tyOne_mk Try.underlying46 (by kernel_rfl) rfl
instance tyOne_48 : TyOne Try.prog 48 := tyOne_mk Try.underlying48 (by kernel_rfl) rfl
instance tyOne_52 : TyOne Try.prog 52 := tyOne_mk Try.underlying52 (by kernel_rfl) rfl
instance tyApp_56 : TyApp Try.prog 56 61 1 8 (.pointer none) := ⟨isSl_mk Try.underlying56 (by kernel_rfl) rfl (by decide)⟩
instance tySl_56 : TySl Try.prog 56 1 := tySl_mk Try.underlying56 (by kernel_rfl)
instance tyOne_56 : TyOne Try.prog 56 := tyOne_mk Try.underlying56 (by kernel_rfl) rfl
instance tyS_57 : TyS Try.prog 57 4 := ⟨by kernel_rfl, _, Try.underlying57⟩
instance tyS_58 : TyS Try.prog 58 4 := ⟨by kernel_rfl, _, Try.underlying58⟩
instance tyOne_61 : TyOne Try.prog 61 := tyOne_mk Try.underlying61 (by kernel_rfl) rfl
instance tyS_62 : TyS Try.prog 62 4 := ⟨by kernel_rfl, _, Try.underlying62⟩
instance tyS_63 : TyS Try.prog 63 4 := ⟨by kernel_rfl, _, Try.underlying63⟩
instance tyOne_68 : TyOne Try.prog 68 := tyOne_mk Try.underlying68 (by kernel_rfl) rfl
instance tyS_72 : TyS Try.prog 72 4 := ⟨by kernel_rfl, _, Try.underlying72⟩
instance tyS_73 : TyS Try.prog 73 4 := ⟨by kernel_rfl, _, Try.underlying73⟩
instance tyS_75 : TyS Try.prog 75 0 := ⟨by kernel_rfl, _, Try.underlying75⟩
instance tyS_76 : TyS Try.prog 76 0 := ⟨by kernel_rfl, _, Try.underlying76⟩
instance tyOne_77 : TyOne Try.prog 77 := tyOne_mk Try.underlying77 (by kernel_rfl) rfl
instance tyOne_78 : TyOne Try.prog 78 := tyOne_mk Try.underlying78 (by kernel_rfl) rfl
instance tyOne_79 : TyOne Try.prog 79 := tyOne_mk Try.underlying79 (by kernel_rfl) rfl
instance tyOne_81 : TyOne Try.prog 81 := tyOne_mk Try.underlying81 (by kernel_rfl) rfl
instance tyOne_82 : TyOne Try.prog 82 := tyOne_mk Try.underlying82 (by kernel_rfl) rfl
instance tyOne_83 : TyOne Try.prog 83 := tyOne_mk Try.underlying83 (by kernel_rfl) rfl
instance tyS_84 : TyS Try.prog 84 11 := ⟨by kernel_rfl, _, Try.underlying84⟩
instance tyS_85 : TyS Try.prog 85 11 := ⟨by kernel_rfl, _, Try.underlying85⟩
instance tyOne_86 : TyOne Try.prog 86 := tyOne_mk Try.underlying86 (by kernel_rfl) rfl
end
end Go.Proofs.Ytbekaeahedkeoaa
