
/-
  The sizes of the program's types, as instances.
-/
import Derived.Test.YtadbpekkmlblmaaRows
import Derived.Test.YtadbpekkmlblmaaAuto
import Derived.Test.YtadbpekkmlblmaaSetMap
namespace Go.Proofs.Ytadbpekkmlblmaa
open Go.RowKit Go.Sl
section
set_option maxRecDepth 100000
instance tyOne_2 : TyOne Try.prog 2 := tyOne_mk Try.underlying2 (by kernel_rfl) rfl
instance tyOne_3 : TyOne Try.prog 3 := tyOne_mk Try.underlying3 (by kernel_rfl) rfl
instance tyOne_4 : TyOne Try.prog 4 := tyOne_mk Try.underlying4 (by kernel_rfl) rfl
instance tyOne_5 : TyOne Try.prog 5 := tyOne_mk Try.underlying5 (by kernel_rfl) rfl
instance tyOne_6 : TyOne Try.prog 6 := tyOne_mk Try.underlying6 (by kernel_rfl) rfl
instance tyS_7 : TyS Try.prog 7 4 := ⟨by kernel_rfl, _, Try.underlying7⟩
instance tyS_8 : TyS Try.prog 8 4 := ⟨by kernel_rfl, _, Try.underlying8⟩
instance tyStr_9 : TyStr Try.prog 9 := ⟨Try.underlying9⟩
instance tyOne_9 : TyOne Try.prog 9 := tyOne_mk Try.underlying9 (by kernel_rfl) rfl
instance tyStr_10 : TyStr Try.prog 10 := ⟨Try.underlying10⟩
instance tyOne_10 : TyOne Try.prog 10 := tyOne_mk Try.underlying10 (by kernel_rfl) rfl
instance tyStr_11 : TyStr Try.prog 11 := ⟨Try.underlying11⟩
instance tyOne_11 : TyOne Try.prog 11 := tyOne_mk Try.underlying11 (by kernel_rfl) rfl
instance tyOne_12 : TyOne Try.prog 12 := tyOne_mk Try.underlying12 (by kernel_rfl) rfl
instance tyS_13 : TyS Try.prog 13 2 := ⟨by kernel_rfl, _, Try.underlying13⟩
instance tyS_14 : TyS Try.prog 14 2 := ⟨by kernel_rfl, _, Try.underlying14⟩
instance tyOne_15 : TyOne Try.prog 15 := tyOne_mk Try.underlying15 (by kernel_rfl) rfl
instance tyOne_16 : TyOne Try.prog 16 := tyOne_mk Try.underlying16 (by kernel_rfl) rfl
instance tyOne_17 : TyOne Try.prog 17 := tyOne_mk Try.underlying17 (by kernel_rfl) rfl
instance tyS_18 : TyS Try.prog 18 1 := ⟨by kernel_rfl, _, Try.underlying18⟩
instance tyS_19 : TyS Try.prog 19 1 := ⟨by kernel_rfl, _, Try.underlying19⟩
instance tyOne_21 : TyOne Try.prog 21 := tyOne_mk Try.underlying21 (by kernel_rfl) rfl
instance tyOne_23 : TyOne Try.prog 23 := tyOne_mk Try.underlying23 (by kernel_rfl) rfl
instance tyOne_24 : TyOne Try.prog 24 := tyOne_mk Try.underlying24 (by kernel_rfl) rfl
instance tyApp_28 : TyApp Try.prog 28 36 4 16 (.agg #[.bool false, .bool false, .bool false, .int .i64 0]) := ⟨isSl_mk Try.underlying28 (by kernel_rfl) rfl (by decide)⟩
instance tySl_28 : TySl Try.prog 28 4 := tySl_mk Try.underlying28 (by kernel_rfl)
instance tyOne_28 : TyOne Try.prog 28 := tyOne_mk Try.underlying28 (by kernel_rfl) rfl
instance tyOne_29 : TyOne Try.prog 29 := tyOne_mk Try.underlying29 (by kernel_rfl) rfl
instance tyApp_31 : TyApp Try.prog 31 39 2 16 (.agg #[.int .i64 0, .bool false]) := ⟨isSl_mk Try.underlying31 (by kernel_rfl) rfl (by decide)⟩
instance tySl_31 : TySl Try.prog 31 2 := tySl_mk Try.underlying31 (by kernel_rfl)
instance tyOne_31 : TyOne Try.prog 31 := tyOne_mk Try.underlying31 (by kernel_rfl) rfl
instance tyS_33 : TyS Try.prog 33 4 := ⟨by kernel_rfl, _, Try.underlying33⟩
instance tyS_34 : TyS Try.prog 34 4 := ⟨by kernel_rfl, _, Try.underlying34⟩
instance tyS_35 : TyS Try.prog 35 4 := ⟨by kernel_rfl, _, Try.underlying35⟩
instance tyS_36 : TyS Try.prog 36 4 := ⟨by kernel_rfl, _, Try.underlying36⟩
instance tyS_38 : TyS Try.prog 38 2 := ⟨by kernel_rfl, _, Try.underlying38⟩
instance tyS_39 : TyS Try.prog 39 2 := ⟨by kernel_rfl, _, Try.underlying39⟩
instance tyApp_40 : TyApp Try.prog 40 3 1 8 (.int .i64 0) := ⟨isSl_mk Try.underlying40 (by kernel_rfl) rfl (by decide)⟩
instance tySl_40 : TySl Try.prog 40 1 := tySl_mk Try.underlying40 (by kernel_rfl)
instance tyOne_40 : TyOne Try.prog 40 := tyOne_mk Try.underlying40 (by kernel_rfl) rfl
instance tyApp_42 : TyApp Try.prog 42 46 2 16 (.agg #[.int .i64 0, .int .i64 0]) := ⟨isSl_mk Try.underlying42 (by kernel_rfl) rfl (by decide)⟩
instance tySl_42 : TySl Try.prog 42 2 := tySl_mk Try.underlying42 (by kernel_rfl)
instance tyOne_42 : TyOne Try.prog 42 := tyOne_mk Try.underlying42 (by kernel_rfl) rfl
instance tyOne_43 : TyOne Try.prog 43 := tyOne_mk Try.underlying43 (by kernel_rfl) rfl
instance tyS_45 : TyS Try.prog 45 2 := ⟨by kernel_rfl, _, Try.underlying45⟩
instance tyS_46 : TyS Try.prog 46 2 := ⟨by kernel_rfl, _, Try.underlying46⟩
instance tyS_48 : TyS Try.prog 48 3 := ⟨by kernel_rfl, _, Try.underlying48⟩
instance tyS_49 : TyS Try.prog 49 3 := ⟨by kernel_rfl, _, Try.underlying49⟩
instance tyOne_51 : TyOne Try.prog 51 := tyOne_mk Try.underlying51 (by kernel_rfl) rfl
instance tyOne_57 : TyOne Try.prog 57 := tyOne_mk Try.underlying57 (by kernel_rfl) rfl
instance tyApp_64 : TyApp Try.prog 64 9 1 16 (.string ⟨#[]⟩) := ⟨isSl_mk Try.underlying64 (by kernel_rfl) rfl (by decide)⟩
instance tySl_64 : TySl Try.prog 64 1 := tySl_mk Try.underlying64 (by kernel_rfl)
instance tyOne_64 : TyOne Try.prog 64 := tyOne_mk Try.underlying64 (by kernel_rfl) rfl
instance tySet_66 : TySet Try.prog 66 3 4 := ⟨Try.underlying66, Try.underlying3, Try.underlying4, fun w => by kernel_rfl⟩
instance tyOne_66 : TyOne Try.prog 66 := tyOne_mk Try.underlying66 (by kernel_rfl) rfl
instance tyS_67 : TyS Try.prog 67 7 := ⟨by kernel_rfl, _, Try.underlying67⟩
instance tyS_68 : TyS Try.prog 68 7 := ⟨by kernel_rfl, _, Try.underlying68⟩
instance tyS_69 : TyS Try.prog 69 6 := ⟨by kernel_rfl, _, Try.underlying69⟩
instance tyS_70 : TyS Try.prog 70 6 := ⟨by kernel_rfl, _, Try.underlying70⟩
instance tyS_72 : TyS Try.prog 72 4 := ⟨by kernel_rfl, _, Try.underlying72⟩
instance tyS_73 : TyS Try.prog 73 4 := ⟨by kernel_rfl, _, Try.underlying73⟩
instance tyS_75 : TyS Try.prog 75 0 := ⟨by kernel_rfl, _, Try.underlying75⟩
instance tyS_76 : TyS Try.prog 76 0 := ⟨by kernel_rfl, _, Try.underlying76⟩
instance tyOne_77 : TyOne Try.prog 77 := tyOne_mk Try.underlying77 (by kernel_rfl) rfl
instance tyOne_78 : TyOne Try.prog 78 := tyOne_mk Try.underlying78 (by kernel_rfl) rfl
instance tyOne_80 : TyOne Try.prog 80 := tyOne_mk Try.underlying80 (by kernel_rfl) rfl
instance tyOne_81 : TyOne Try.prog 81 := tyOne_mk Try.underlying81 (by kernel_rfl) rfl
instance tyOne_82 : TyOne Try.prog 82 := tyOne_mk Try.underlying82 (by kernel_rfl) rfl
instance tyS_83 : TyS Try.prog 83 11 := ⟨by kernel_rfl, _, Try.underlying83⟩
instance tyS_84 : TyS Try.prog 84 11 := ⟨by kernel_rfl, _, Try.underlying84⟩
instance tyOne_85 : TyOne Try.prog 85 := tyOne_mk Try.underlying85 (by kernel_rfl) rfl
end
end Go.Proofs.Ytadbpekkmlblmaa
