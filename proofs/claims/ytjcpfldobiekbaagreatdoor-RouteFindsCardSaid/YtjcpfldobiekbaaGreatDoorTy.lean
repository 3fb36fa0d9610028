



/-
  The sizes of the program's types, as instances.
-/
import Derived.Test.YtjcpfldobiekbaaGreatDoorRows
import Derived.Test.YtjcpfldobiekbaaGreatDoorAuto
import Derived.Test.YtjcpfldobiekbaaGreatDoorStrSet
namespace Go.Proofs.YtjcpfldobiekbaaGreatDoor
open Go.RowKit Go.Sl
section
set_option maxRecDepth 100000
instance tyOne_2 : TyOne Tryz.prog 2 := tyOne_mk Tryz.underlying2 (by kernel_rfl) rfl
instance tyOne_3 : TyOne Tryz.prog 3 := tyOne_mk Tryz.underlying3 (by kernel_rfl) rfl
instance tyOne_4 : TyOne Tryz.prog 4 := tyOne_mk Tryz.underlying4 (by kernel_rfl) rfl
instance tyOne_5 : TyOne Tryz.prog 5 := tyOne_mk Tryz.underlying5 (by kernel_rfl) rfl
instance tyOne_6 : TyOne Tryz.prog 6 := tyOne_mk Tryz.underlying6 (by kernel_rfl) rfl
instance tyS_7 : TyS Tryz.prog 7 4 := ⟨by kernel_rfl, _, Tryz.underlying7⟩
instance tyS_8 : TyS Tryz.prog 8 4 := ⟨by kernel_rfl, _, Tryz.underlying8⟩
instance tyStr_9 : TyStr Tryz.prog 9 := ⟨Tryz.underlying9⟩
instance tyOne_9 : TyOne Tryz.prog 9 := tyOne_mk Tryz.underlying9 (by kernel_rfl) rfl
instance tyStr_10 : TyStr Tryz.prog 10 := ⟨Tryz.underlying10⟩
instance tyOne_10 : TyOne Tryz.prog 10 := tyOne_mk Tryz.underlying10 (by kernel_rfl) rfl
instance tyStr_11 : TyStr Tryz.prog 11 := ⟨Tryz.underlying11⟩
instance tyOne_11 : TyOne Tryz.prog 11 := tyOne_mk Tryz.underlying11 (by kernel_rfl) rfl
instance tyOne_12 : TyOne Tryz.prog 12 := tyOne_mk Tryz.underlying12 (by kernel_rfl) rfl
instance tyS_13 : TyS Tryz.prog 13 2 := ⟨by kernel_rfl, _, Tryz.underlying13⟩
instance tyS_14 : TyS Tryz.prog 14 2 := ⟨by kernel_rfl, _, Tryz.underlying14⟩
instance tyOne_15 : TyOne Tryz.prog 15 := tyOne_mk Tryz.underlying15 (by kernel_rfl) rfl
instance tyOne_16 : TyOne Tryz.prog 16 := tyOne_mk Tryz.underlying16 (by kernel_rfl) rfl
instance tyOne_17 : TyOne Tryz.prog 17 := tyOne_mk Tryz.underlying17 (by kernel_rfl) rfl
instance tyS_18 : TyS Tryz.prog 18 1 := ⟨by kernel_rfl, _, Tryz.underlying18⟩
instance tyS_19 : TyS Tryz.prog 19 1 := ⟨by kernel_rfl, _, Tryz.underlying19⟩
instance tyOne_21 : TyOne Tryz.prog 21 := tyOne_mk Tryz.underlying21 (by kernel_rfl) rfl
instance tyApp_22 : TyApp Tryz.prog 22 9 1 16 (.string ⟨#[]⟩) := ⟨isSl_mk Tryz.underlying22 (by kernel_rfl) rfl (by decide)⟩
instance tySl_22 : TySl Tryz.prog 22 1 := tySl_mk Tryz.underlying22 (by kernel_rfl)
instance tyOne_22 : TyOne Tryz.prog 22 := tyOne_mk Tryz.underlying22 (by kernel_rfl) rfl
instance tyApp_23 : TyApp Tryz.prog 23 42 2 48 (.agg #[.slice none 0 0, .slice none 0 0]) := ⟨isSl_mk Tryz.underlying23 (by kernel_rfl) rfl (by decide)⟩
instance tySl_23 : TySl Tryz.prog 23 2 := tySl_mk Tryz.underlying23 (by kernel_rfl)
instance tyOne_23 : TyOne Tryz.prog 23 := tyOne_mk Tryz.underlying23 (by kernel_rfl) rfl
instance tyS_24 : TyS Tryz.prog 24 3 := ⟨by kernel_rfl, _, Tryz.underlying24⟩
instance tyS_25 : TyS Tryz.prog 25 3 := ⟨by kernel_rfl, _, Tryz.underlying25⟩
instance tyApp_26 : TyApp Tryz.prog 26 39 3 40 (.agg #[.string ⟨#[]⟩, .string ⟨#[]⟩, .bool false]) := ⟨isSl_mk Tryz.underlying26 (by kernel_rfl) rfl (by decide)⟩
instance tySl_26 : TySl Tryz.prog 26 3 := tySl_mk Tryz.underlying26 (by kernel_rfl)
instance tyOne_26 : TyOne Tryz.prog 26 := tyOne_mk Tryz.underlying26 (by kernel_rfl) rfl
instance tyOne_27 : TyOne Tryz.prog 27 := tyOne_mk Tryz.underlying27 (by kernel_rfl) rfl
instance tyOne_34 : TyOne Tryz.prog 34 := tyOne_mk Tryz.underlying34 (by kernel_rfl) rfl
instance tyS_38 : TyS Tryz.prog 38 3 := ⟨by kernel_rfl, _, Tryz.underlying38⟩
instance tyS_39 : TyS Tryz.prog 39 3 := ⟨by kernel_rfl, _, Tryz.underlying39⟩
instance tyApp_40 : TyApp Tryz.prog 40 46 7 112 (.agg #[.string ⟨#[]⟩, .int .i64 0, .string ⟨#[]⟩, .string ⟨#[]⟩, .slice none 0 0, .slice none 0 0, .int .i64 0]) := ⟨isSl_mk Tryz.underlying40 (by kernel_rfl) rfl (by decide)⟩
instance tySl_40 : TySl Tryz.prog 40 7 := tySl_mk Tryz.underlying40 (by kernel_rfl)
instance tyOne_40 : TyOne Tryz.prog 40 := tyOne_mk Tryz.underlying40 (by kernel_rfl) rfl
instance tyS_41 : TyS Tryz.prog 41 2 := ⟨by kernel_rfl, _, Tryz.underlying41⟩
instance tyS_42 : TyS Tryz.prog 42 2 := ⟨by kernel_rfl, _, Tryz.underlying42⟩
instance tyApp_43 : TyApp Tryz.prog 43 83 4 48 (.agg #[.string ⟨#[]⟩, .string ⟨#[]⟩, .int .i64 0, .bool false]) := ⟨isSl_mk Tryz.underlying43 (by kernel_rfl) rfl (by decide)⟩
instance tySl_43 : TySl Tryz.prog 43 4 := tySl_mk Tryz.underlying43 (by kernel_rfl)
instance tyOne_43 : TyOne Tryz.prog 43 := tyOne_mk Tryz.underlying43 (by kernel_rfl) rfl
instance tyApp_44 : TyApp Tryz.prog 44 52 2 24 (.agg #[.string ⟨#[]⟩, .float .f64 0]) := ⟨isSl_mk Tryz.underlying44 (by kernel_rfl) rfl (by decide)⟩
instance tySl_44 : TySl Tryz.prog 44 2 := tySl_mk Tryz.underlying44 (by kernel_rfl)
instance tyOne_44 : TyOne Tryz.prog 44 := tyOne_mk Tryz.underlying44 (by kernel_rfl) rfl
instance tyS_45 : TyS Tryz.prog 45 7 := ⟨by kernel_rfl, _, Tryz.underlying45⟩
instance tyS_46 : TyS Tryz.prog 46 7 := ⟨by kernel_rfl, _, Tryz.underlying46⟩
instance tyOne_50 : TyOne Tryz.prog 50 := tyOne_mk Tryz.underlying50 (by kernel_rfl) rfl
instance tyS_51 : TyS Tryz.prog 51 2 := ⟨by kernel_rfl, _, Tryz.underlying51⟩
instance tyS_52 : TyS Tryz.prog 52 2 := ⟨by kernel_rfl, _, Tryz.underlying52⟩
instance tyApp_54 : TyApp Tryz.prog 54 50 1 8 (.float .f64 0) := ⟨isSl_mk Tryz.underlying54 (by kernel_rfl) rfl (by decide)⟩
instance tySl_54 : TySl Tryz.prog 54 1 := tySl_mk Tryz.underlying54 (by kernel_rfl)
instance tyOne_54 : TyOne Tryz.prog 54 := tyOne_mk Tryz.underlying54 (by kernel_rfl) rfl
instance tySS_58 : TySS Tryz.prog 58 9 4 := ⟨Tryz.underlying58, Tryz.underlying9, Tryz.underlying4, fun w => by kernel_rfl⟩
instance tyOne_58 : TyOne Tryz.prog 58 := tyOne_mk Tryz.underlying58 (by kernel_rfl) rfl
instance tyS_64 : TyS Tryz.prog 64 3 := ⟨by kernel_rfl, _, Tryz.underlying64⟩
instance tyS_65 : TyS Tryz.prog 65 3 := ⟨by kernel_rfl, _, Tryz.underlying65⟩
instance tyOne_74 : TyOne Tryz.prog 74 := tyOne_mk Tryz.underlying74 (by kernel_rfl) rfl
instance tyApp_78 : TyApp Tryz.prog 78 5 1 1 (.int .u8 0) := ⟨isSl_mk Tryz.underlying78 (by kernel_rfl) rfl (by decide)⟩
instance tySl_78 : TySl Tryz.prog 78 1 := tySl_mk Tryz.underlying78 (by kernel_rfl)
instance tyBytes_78 : TyBytes Tryz.prog 78 := ⟨_, Tryz.underlying78, Tryz.underlying5⟩
instance tyOne_78 : TyOne Tryz.prog 78 := tyOne_mk Tryz.underlying78 (by kernel_rfl) rfl
instance tyApp_81 : TyApp Tryz.prog 81 3 1 8 (.int .i64 0) := ⟨isSl_mk Tryz.underlying81 (by kernel_rfl) rfl (by decide)⟩
instance tySl_81 : TySl Tryz.prog 81 1 := tySl_mk Tryz.underlying81 (by kernel_rfl)
instance tyOne_81 : TyOne Tryz.prog 81 := tyOne_mk Tryz.underlying81 (by kernel_rfl) rfl
instance tyS_82 : TyS Tryz.prog 82 4 := ⟨by kernel_rfl, _, Tryz.underlying82⟩
instance tyS_83 : TyS Tryz.prog 83 4 := ⟨by kernel_rfl, _, Tryz.underlying83⟩
instance tyOne_86 : TyOne Tryz.prog 86 := tyOne_mk Tryz.underlying86 (by kernel_rfl) rfl
instance tyOne_88 : TyOne Tryz.prog 88 := tyOne_mk Tryz.underlying88 (by kernel_rfl) rfl
instance tyOne_112 : TyOne Tryz.prog 112 := tyOne_mk Tryz.underlying112 (by kernel_rfl) rfl
instance tyS_120 : TyS Tryz.prog 120 2 := ⟨by kernel_rfl, _, Tryz.underlying120⟩
instance tyS_121 : TyS Tryz.prog 121 2 := ⟨by kernel_rfl, _, Tryz.underlying121⟩
instance tyOne_124 : TyOne Tryz.prog 124 := tyOne_mk Tryz.underlying124 (by kernel_rfl) rfl
instance tyS_128 : TyS Tryz.prog 128 4 := ⟨by kernel_rfl, _, Tryz.underlying128⟩
instance tyS_129 : TyS Tryz.prog 129 4 := ⟨by kernel_rfl, _, Tryz.underlying129⟩
instance tyS_131 : TyS Tryz.prog 131 0 := ⟨by kernel_rfl, _, Tryz.underlying131⟩
instance tyS_132 : TyS Tryz.prog 132 0 := ⟨by kernel_rfl, _, Tryz.underlying132⟩
instance tyOne_133 : TyOne Tryz.prog 133 := tyOne_mk Tryz.underlying133 (by kernel_rfl) rfl
instance tyOne_134 : TyOne Tryz.prog 134 := tyOne_mk Tryz.underlying134 (by kernel_rfl) rfl
instance tyOne_136 : TyOne Tryz.prog 136 := tyOne_mk Tryz.underlying136 (by kernel_rfl) rfl
instance tyOne_137 : TyOne Tryz.prog 137 := tyOne_mk Tryz.underlying137 (by kernel_rfl) rfl
instance tyOne_138 : TyOne Tryz.prog 138 := tyOne_mk Tryz.underlying138 (by kernel_rfl) rfl
instance tyS_139 : TyS Tryz.prog 139 11 := ⟨by kernel_rfl, _, Tryz.underlying139⟩
instance tyS_140 : TyS Tryz.prog 140 11 := ⟨by kernel_rfl, _, Tryz.underlying140⟩
instance tyOne_141 : TyOne Tryz.prog 141 := tyOne_mk Tryz.underlying141 (by kernel_rfl) rfl
end
end Go.Proofs.YtjcpfldobiekbaaGreatDoor
