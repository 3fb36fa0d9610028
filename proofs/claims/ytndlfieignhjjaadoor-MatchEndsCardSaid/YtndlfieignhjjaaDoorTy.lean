
/-
  The sizes of the program's types, as instances.
-/
import Derived.Test.YtndlfieignhjjaaDoorRows
import Derived.Test.YtndlfieignhjjaaDoorAuto
namespace Go.Proofs.YtndlfieignhjjaaDoor
open Go.RowKit Go.Sl
section
set_option maxRecDepth 100000
instance tyOne_2 : TyOne Tryd.prog 2 := tyOne_mk Tryd.underlying2 (by kernel_rfl) rfl
instance tyOne_3 : TyOne Tryd.prog 3 := tyOne_mk Tryd.underlying3 (by kernel_rfl) rfl
instance tyOne_4 : TyOne Tryd.prog 4 := tyOne_mk Tryd.underlying4 (by kernel_rfl) rfl
instance tyOne_5 : TyOne Tryd.prog 5 := tyOne_mk Tryd.underlying5 (by kernel_rfl) rfl
instance tyOne_6 : TyOne Tryd.prog 6 := tyOne_mk Tryd.underlying6 (by kernel_rfl) rfl
instance tyS_7 : TyS Tryd.prog 7 4 := ⟨by kernel_rfl, _, Tryd.underlying7⟩
instance tyS_8 : TyS Tryd.prog 8 4 := ⟨by kernel_rfl, _, Tryd.underlying8⟩
instance tyStr_9 : TyStr Tryd.prog 9 := ⟨Tryd.underlying9⟩
instance tyOne_9 : TyOne Tryd.prog 9 := tyOne_mk Tryd.underlying9 (by kernel_rfl) rfl
instance tyStr_10 : TyStr Tryd.prog 10 := ⟨Tryd.underlying10⟩
instance tyOne_10 : TyOne Tryd.prog 10 := tyOne_mk Tryd.underlying10 (by kernel_rfl) rfl
instance tyStr_11 : TyStr Tryd.prog 11 := ⟨Tryd.underlying11⟩
instance tyOne_11 : TyOne Tryd.prog 11 := tyOne_mk Tryd.underlying11 (by kernel_rfl) rfl
instance tyOne_12 : TyOne Tryd.prog 12 := tyOne_mk Tryd.underlying12 (by kernel_rfl) rfl
instance tyS_13 : TyS Tryd.prog 13 2 := ⟨by kernel_rfl, _, Tryd.underlying13⟩
instance tyS_14 : TyS Tryd.prog 14 2 := ⟨by kernel_rfl, _, Tryd.underlying14⟩
instance tyOne_15 : TyOne Tryd.prog 15 := tyOne_mk Tryd.underlying15 (by kernel_rfl) rfl
instance tyOne_16 : TyOne Tryd.prog 16 := tyOne_mk Tryd.underlying16 (by kernel_rfl) rfl
instance tyOne_17 : TyOne Tryd.prog 17 := tyOne_mk Tryd.underlying17 (by kernel_rfl) rfl
instance tyS_18 : TyS Tryd.prog 18 1 := ⟨by kernel_rfl, _, Tryd.underlying18⟩
instance tyS_19 : TyS Tryd.prog 19 1 := ⟨by kernel_rfl, _, Tryd.underlying19⟩
instance tyOne_21 : TyOne Tryd.prog 21 := tyOne_mk Tryd.underlying21 (by kernel_rfl) rfl
instance tyOne_30 : TyOne Tryd.prog 30 := tyOne_mk Tryd.underlying30 (by kernel_rfl) rfl
instance tyApp_31 : TyApp Tryd.prog 31 5 1 1 (.int .u8 0) := ⟨isSl_mk Tryd.underlying31 (by kernel_rfl) rfl (by decide)⟩
instance tySl_31 : TySl Tryd.prog 31 1 := tySl_mk Tryd.underlying31 (by kernel_rfl)
instance tyBytes_31 : TyBytes Tryd.prog 31 := ⟨_, Tryd.underlying31, Tryd.underlying5⟩
instance tyOne_31 : TyOne Tryd.prog 31 := tyOne_mk Tryd.underlying31 (by kernel_rfl) rfl
instance tyApp_33 : TyApp Tryd.prog 33 35 3 40 (.agg #[.string ⟨#[]⟩, .string ⟨#[]⟩, .bool false]) := ⟨isSl_mk Tryd.underlying33 (by kernel_rfl) rfl (by decide)⟩
instance tySl_33 : TySl Tryd.prog 33 3 := tySl_mk Tryd.underlying33 (by kernel_rfl)
instance tyOne_33 : TyOne Tryd.prog 33 := tyOne_mk Tryd.underlying33 (by kernel_rfl) rfl
instance tyS_34 : TyS Tryd.prog 34 3 := ⟨by kernel_rfl, _, Tryd.underlying34⟩
instance tyS_35 : TyS Tryd.prog 35 3 := ⟨by kernel_rfl, _, Tryd.underlying35⟩
instance tyS_36 : TyS Tryd.prog 36 4 := ⟨by kernel_rfl, _, Tryd.underlying36⟩
instance tyS_37 : TyS Tryd.prog 37 4 := ⟨by kernel_rfl, _, Tryd.underlying37⟩
instance tyApp_40 : TyApp Tryd.prog 40 37 4 48 (.agg #[.string ⟨#[]⟩, .string ⟨#[]⟩, .int .i64 0, .bool false]) := ⟨isSl_mk Tryd.underlying40 (by kernel_rfl) rfl (by decide)⟩
instance tySl_40 : TySl Tryd.prog 40 4 := tySl_mk Tryd.underlying40 (by kernel_rfl)
instance tyOne_40 : TyOne Tryd.prog 40 := tyOne_mk Tryd.underlying40 (by kernel_rfl) rfl
instance tyOne_62 : TyOne Tryd.prog 62 := tyOne_mk Tryd.underlying62 (by kernel_rfl) rfl
instance tyOne_69 : TyOne Tryd.prog 69 := tyOne_mk Tryd.underlying69 (by kernel_rfl) rfl
instance tyS_73 : TyS Tryd.prog 73 2 := ⟨by kernel_rfl, _, Tryd.underlying73⟩
instance tyS_74 : TyS Tryd.prog 74 2 := ⟨by kernel_rfl, _, Tryd.underlying74⟩
instance tyS_78 : TyS Tryd.prog 78 4 := ⟨by kernel_rfl, _, Tryd.underlying78⟩
instance tyS_79 : TyS Tryd.prog 79 4 := ⟨by kernel_rfl, _, Tryd.underlying79⟩
instance tyS_81 : TyS Tryd.prog 81 0 := ⟨by kernel_rfl, _, Tryd.underlying81⟩
instance tyS_82 : TyS Tryd.prog 82 0 := ⟨by kernel_rfl, _, Tryd.underlying82⟩
instance tyOne_84 : TyOne Tryd.prog 84 := tyOne_mk Tryd.underlying84 (by kernel_rfl) rfl
instance tyOne_85 : TyOne Tryd.prog 85 := tyOne_mk Tryd.underlying85 (by kernel_rfl) rfl
instance tyOne_87 : TyOne Tryd.prog 87 := tyOne_mk Tryd.underlying87 (by kernel_rfl) rfl
instance tyOne_88 : TyOne Tryd.prog 88 := tyOne_mk Tryd.underlying88 (by kernel_rfl) rfl
instance tyOne_89 : TyOne Tryd.prog 89 := tyOne_mk Tryd.underlying89 (by kernel_rfl) rfl
instance tyS_90 : TyS Tryd.prog 90 11 := ⟨by kernel_rfl, _, Tryd.underlying90⟩
instance tyS_91 : TyS Tryd.prog 91 11 := ⟨by kernel_rfl, _, Tryd.underlying91⟩
instance tyOne_92 : TyOne Tryd.prog 92 := tyOne_mk Tryd.underlying92 (by kernel_rfl) rfl
end
end Go.Proofs.YtndlfieignhjjaaDoor
