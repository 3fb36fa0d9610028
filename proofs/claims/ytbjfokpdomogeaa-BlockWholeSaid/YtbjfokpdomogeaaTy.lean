
/-
  The sizes of the program's types, as instances.
-/
import Derived.Test.YtbjfokpdomogeaaRows
import Derived.Test.YtbjfokpdomogeaaAuto
namespace Go.Proofs.Ytbjfokpdomogeaa
open Go.RowKit Go.Sl
section
set_option maxRecDepth 100000
instance tyOne_2 : TyOne Try.prog 2 := tyOne_mk Try.underlying2 (by kernel_rfl) rfl
instance tyOne_3 : TyOne Try.prog 3 := tyOne_mk Try.underlying3 (by kernel_rfl) rfl
instance tyOne_4 : TyOne Try.prog 4 := tyOne_mk Try.underlying4 (by kernel_rfl) rfl
instance tyOne_5 : TyOne Try.prog 5 := tyOne_mk Try.underlying5 (by kernel_rfl) rfl
instance tyOne_6 : TyOne Try.prog 6 := tyOne_mk Try.underlying6 (by kernel_rfl) rfl
instance tyS_7 : TyS Try.prog 7 4 := ⟨by kernel_rfl, _, Try.underlying7⟩
instance tyS_8 : TyS Try.prog 8 4 := ⟨by kernel_rfl, _, Try.underlying8⟩
instance tyStr_9 : TyStr Try.prog 9 := ⟨Try.underlying9⟩
instance tyOne_9 : TyOne Try.prog 9 := tyOne_mk Try.underlying9 (by kernel_rfl) rfl
instance tyStr_10 : TyStr Try.prog 10 := ⟨Try.underlying10⟩
instance tyOne_10 : TyOne Try.prog 10 := tyOne_mk Try.underlying10 (by kernel_rfl) rfl
instance tyStr_11 : TyStr Try.prog 11 := ⟨Try.underlying11⟩
instance tyOne_11 : TyOne Try.prog 11 := tyOne_mk Try.underlying11 (by kernel_rfl) rfl
instance tyOne_12 : TyOne Try.prog 12 := tyOne_mk Try.underlying12 (by kernel_rfl) rfl
instance tyS_13 : TyS Try.prog 13 2 := ⟨by kernel_rfl, _, Try.underlying13⟩
instance tyS_14 : TyS Try.prog 14 2 := ⟨by kernel_rfl, _, Try.underlying14⟩
instance tyOne_15 : TyOne Try.prog 15 := tyOne_mk Try.underlying15 (by kernel_rfl) rfl
instance tyOne_16 : TyOne Try.prog 16 := tyOne_mk Try.underlying16 (by kernel_rfl) rfl
instance tyOne_17 : TyOne Try.prog 17 := tyOne_mk Try.underlying17 (by kernel_rfl) rfl
instance tyS_18 : TyS Try.prog 18 1 := ⟨by kernel_rfl, _, Try.underlying18⟩
instance tyS_19 : TyS Try.prog 19 1 := ⟨by kernel_rfl, _, Try.underlying19⟩
instance tyOne_21 : TyOne Try.prog 21 := tyOne_mk Try.underlying21 (by kernel_rfl) rfl
instance tyApp_22 : TyApp Try.prog 22 5 1 1 (.int .u8 0) := ⟨isSl_mk Try.underlying22 (by kernel_rfl) rfl (by decide)⟩
instance tySl_22 : TySl Try.prog 22 1 := tySl_mk Try.underlying22 (by kernel_rfl)
instance tyBytes_22 : TyBytes Try.prog 22 := ⟨_, Try.underlying22, Try.underlying5⟩
instance tyOne_22 : TyOne Try.prog 22 := tyOne_mk Try.underlying22 (by kernel_rfl) rfl
instance tyApp_23 : TyApp Try.prog 23 3 1 8 (.int .i64 0) := ⟨isSl_mk Try.underlying23 (by kernel_rfl) rfl (by decide)⟩
instance tySl_23 : TySl Try.prog 23 1 := tySl_mk Try.underlying23 (by kernel_rfl)
instance tyOne_23 : TyOne Try.prog 23 := tyOne_mk Try.underlying23 (by kernel_rfl) rfl
instance tyOne_25 : TyOne Try.prog 25 := tyOne_mk Try.underlying25 (by kernel_rfl) rfl
instance tyApp_27 : TyApp Try.prog 27 22 1 24 (.slice none 0 0) := ⟨isSl_mk Try.underlying27 (by kernel_rfl) rfl (by decide)⟩
instance tySl_27 : TySl Try.prog 27 1 := tySl_mk Try.underlying27 (by kernel_rfl)
instance tyOne_27 : TyOne Try.prog 27 := tyOne_mk Try.underlying27 (by kernel_rfl) rfl
instance tyOne_28 : TyOne Try.prog 28 := tyOne_mk Try.underlying28 (by kernel_rfl) rfl
instance tyOne_29 : TyOne Try.prog 29 := tyOne_mk Try.underlying29 (by kernel_rfl) rfl
instance tyApp_30 : TyApp Try.prog 30 56 2 16 (.agg #[.int .i64 0, .int .u32 0]) := ⟨isSl_mk Try.underlying30 (by kernel_rfl) rfl (by decide)⟩
instance tySl_30 : TySl Try.prog 30 2 := tySl_mk Try.underlying30 (by kernel_rfl)
instance tyOne_30 : TyOne Try.prog 30 := tyOne_mk Try.underlying30 (by kernel_rfl) rfl
instance tyS_31 : TyS Try.prog 31 16 := ⟨by kernel_rfl, _, Try.underlying31⟩
instance tyS_32 : TyS Try.prog 32 16 := ⟨by kernel_rfl, _, Try.underlying32⟩
instance tyS_33 : TyS Try.prog 33 3 := ⟨by kernel_rfl, _, Try.underlying33⟩
instance tyS_34 : TyS Try.prog 34 3 := ⟨by kernel_rfl, _, Try.underlying34⟩
instance tyApp_38 : TyApp Try.prog 38 32 16 136 (.agg #[.int .i64 0, .int .i64 0, .bool false, .bool false, .bool false, .bool false, .slice none 0 0, .int .i64 0, .int .i64 0, .int .i64 0, .bool false, .int .i64 0, .int .u32 0, .slice none 0 0, .int .i64 0, .int .i64 0]) := ⟨isSl_mk Try.underlying38 (by kernel_rfl) rfl (by decide)⟩
instance tySl_38 : TySl Try.prog 38 16 := tySl_mk Try.underlying38 (by kernel_rfl)
instance tyOne_38 : TyOne Try.prog 38 := tyOne_mk Try.underlying38 (by kernel_rfl) rfl
instance tyOne_49 : TyOne Try.prog 49 := tyOne_mk Try.underlying49 (by kernel_rfl) rfl
instance tyS_50 : TyS Try.prog 50 6 := ⟨by kernel_rfl, _, Try.underlying50⟩
instance tyS_51 : TyS Try.prog 51 6 := ⟨by kernel_rfl, _, Try.underlying51⟩
instance tyS_55 : TyS Try.prog 55 2 := ⟨by kernel_rfl, _, Try.underlying55⟩
instance tyS_56 : TyS Try.prog 56 2 := ⟨by kernel_rfl, _, Try.underlying56⟩
instance tyS_58 : TyS Try.prog 58 4 := ⟨by kernel_rfl, _, Try.underlying58⟩
instance tyS_59 : TyS Try.prog 59 4 := ⟨by kernel_rfl, _, Try.underlying59⟩
instance tyS_61 : TyS Try.prog 61 0 := ⟨by kernel_rfl, _, Try.underlying61⟩
instance tyS_62 : TyS Try.prog 62 0 := ⟨by kernel_rfl, _, Try.underlying62⟩
instance tyOne_63 : TyOne Try.prog 63 := tyOne_mk Try.underlying63 (by kernel_rfl) rfl
instance tyOne_64 : TyOne Try.prog 64 := tyOne_mk Try.underlying64 (by kernel_rfl) rfl
instance tyOne_66 : TyOne Try.prog 66 := tyOne_mk Try.underlying66 (by kernel_rfl) rfl
instance tyOne_67 : TyOne Try.prog 67 := tyOne_mk Try.underlying67 (by kernel_rfl) rfl
instance tyOne_68 : TyOne Try.prog 68 := tyOne_mk Try.underlying68 (by kernel_rfl) rfl
instance tyS_69 : TyS Try.prog 69 11 := ⟨by kernel_rfl, _, Try.underlying69⟩
instance tyS_70 : TyS Try.prog 70 11 := ⟨by kernel_rfl, _, Try.underlying70⟩
instance tyOne_71 : TyOne Try.prog 71 := tyOne_mk Try.underlying71 (by kernel_rfl) rfl
end
end Go.Proofs.Ytbjfokpdomogeaa
