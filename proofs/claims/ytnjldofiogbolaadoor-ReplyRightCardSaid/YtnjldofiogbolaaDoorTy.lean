

/-
  The sizes of the program's types, as instances.
-/
import Derived.Test.YtnjldofiogbolaaDoorRows
import Derived.Test.YtnjldofiogbolaaDoorAuto
namespace Go.Proofs.YtnjldofiogbolaaDoor
open Go.RowKit Go.Sl
section
set_option maxRecDepth 100000
instance tyOne_2 : TyOne Tryd.prog 2 := tyOne_mk Tryd.underlying2 (by kernel_rfl) rfl
instance tyOne_3 : TyOne Tryd.prog 3 := tyOne_mk Tryd.underlying3 (by kernel_rfl) rfl
instance tyOne_4 : TyOne Tryd.prog 4 := tyOne_mk Tryd.underlying4 (by kernel_rfl) rfl
instance tyOne_5 : TyOne Tryd.prog 5 := tyOne_mk Tryd.underlying5 (by kernel_rfl) rfl
instance tyOne_6 : TyOne Tryd.prog 6 := tyOne_mk Tryd.underlying6 (by kernel_rfl) rfl
instance tyS_7 : TyS Tryd.prog 7 4 := ⟨by kernel_rfl, _, Tryd.underlying7⟩
instance tyS_8 : TyS Tryd.prog 8 4 := ⟨by kernel_rfl, _, Tryd.underlying8⟩
instance tyStr_9 : TyStr Tryd.prog 9 := ⟨Tryd.underlying9⟩
instance tyOne_9 : TyOne Tryd.prog 9 := tyOne_mk Tryd.underlying9 (by kernel_rfl) rfl
instance tyStr_10 : TyStr Tryd.prog 10 := ⟨Tryd.underlying10⟩
instance tyOne_10 : TyOne Tryd.prog 10 := tyOne_mk Tryd.underlying10 (by kernel_rfl) rfl
instance tyStr_11 : TyStr Tryd.prog 11 := ⟨Tryd.underlying11⟩
instance tyOne_11 : TyOne Tryd.prog 11 := tyOne_mk Tryd.underlying11 (by kernel_rfl) rfl
instance tyOne_12 : TyOne Tryd.prog 12 := tyOne_mk Tryd.underlying12 (by kernel_rfl) rfl
instance tyS_13 : TyS Tryd.prog 13 2 := ⟨by kernel_rfl, _, Tryd.underlying13⟩
instance tyS_14 : TyS Tryd.prog 14 2 := ⟨by kernel_rfl, _, Tryd.underlying14⟩
instance tyOne_15 : TyOne Tryd.prog 15 := tyOne_mk Tryd.underlying15 (by kernel_rfl) rfl
instance tyOne_16 : TyOne Tryd.prog 16 := tyOne_mk Tryd.underlying16 (by kernel_rfl) rfl
instance tyOne_17 : TyOne Tryd.prog 17 := tyOne_mk Tryd.underlying17 (by kernel_rfl) rfl
instance tyS_18 : TyS Tryd.prog 18 1 := ⟨by kernel_rfl, _, Tryd.underlying18⟩
instance tyS_19 : TyS Tryd.prog 19 1 := ⟨by kernel_rfl, _, Tryd.underlying19⟩
instance tyOne_21 : TyOne Tryd.prog 21 := tyOne_mk Tryd.underlying21 (by kernel_rfl) rfl
instance tyOne_22 : TyOne Tryd.prog 22 := tyOne_mk Tryd.underlying22 (by kernel_rfl) rfl
instance tyApp_24 : TyApp Tryd.prog 24 28 3 40 (.agg #[.string ⟨#[]⟩, .string ⟨#[]⟩, .bool false]) := ⟨isSl_mk Tryd.underlying24 (by kernel_rfl) rfl (by decide)⟩
instance tySl_24 : TySl Tryd.prog 24 3 := tySl_mk Tryd.underlying24 (by kernel_rfl)
instance tyOne_24 : TyOne Tryd.prog 24 := tyOne_mk Tryd.underlying24 (by kernel_rfl) rfl
instance tyS_27 : TyS Tryd.prog 27 3 := ⟨by kernel_rfl, _, Tryd.underlying27⟩
instance tyS_28 : TyS Tryd.prog 28 3 := ⟨by kernel_rfl, _, Tryd.underlying28⟩
instance tyOne_29 : TyOne Tryd.prog 29 := tyOne_mk Tryd.underlying29 (by kernel_rfl) rfl
instance tyS_36 : TyS Tryd.prog 36 6 := ⟨by kernel_rfl, _, Tryd.underlying36⟩
instance tyS_37 : TyS Tryd.prog 37 6 := ⟨by kernel_rfl, _, Tryd.underlying37⟩
instance tyApp_45 : TyApp Tryd.prog 45 48 4 56 (.agg #[.int .i64 0, .string ⟨#[]⟩, .string ⟨#[]⟩, .string ⟨#[]⟩]) := ⟨isSl_mk Tryd.underlying45 (by kernel_rfl) rfl (by decide)⟩
instance tySl_45 : TySl Tryd.prog 45 4 := tySl_mk Tryd.underlying45 (by kernel_rfl)
instance tyOne_45 : TyOne Tryd.prog 45 := tyOne_mk Tryd.underlying45 (by kernel_rfl) rfl
instance tyS_47 : TyS Tryd.prog 47 4 := ⟨by kernel_rfl, _, Tryd.underlying47⟩
instance tyS_48 : TyS Tryd.prog 48 4 := ⟨by kernel_rfl, _, Tryd.underlying48⟩
instance tyOne_49 : TyOne Tryd.prog 49 := tyOne_mk Tryd.underlying49 (by kernel_rfl) rfl
instance tyApp_57 : TyApp Tryd.prog 57 9 1 16 (.string ⟨#[]⟩) := ⟨isSl_mk Tryd.underlying57 (by kernel_rfl) rfl (by decide)⟩
instance tySl_57 : TySl Tryd.prog 57 1 := tySl_mk Tryd.underlying57 (by kernel_rfl)
instance tyOne_57 : TyOne Tryd.prog 57 := tyOne_mk Tryd.underlying57 (by kernel_rfl) rfl
instance tyS_58 : TyS Tryd.prog 58 0 := ⟨by kernel_rfl, _, Tryd.underlying58⟩
instance tyS_59 : TyS Tryd.prog 59 0 := ⟨by kernel_rfl, _, Tryd.underlying59⟩
instance tyOne_79 : TyOne Tryd.prog 79 := tyOne_mk Tryd.underlying79 (by kernel_rfl) rfl
instance tyOne_82 : TyOne Tryd.prog 82 := tyOne_mk Tryd.underlying82 (by kernel_rfl) rfl
instance tyApp_85 : TyApp Tryd.prog 85 5 1 1 (.int .u8 0) := ⟨isSl_mk Tryd.underlying85 (by kernel_rfl) rfl (by decide)⟩
instance tySl_85 : TySl Tryd.prog 85 1 := tySl_mk Tryd.underlying85 (by kernel_rfl)
instance tyBytes_85 : TyBytes Tryd.prog 85 := ⟨_, Tryd.underlying85, Tryd.underlying5⟩
instance tyOne_85 : TyOne Tryd.prog 85 := tyOne_mk Tryd.underlying85 (by kernel_rfl) rfl
instance tyOne_92 : TyOne Tryd.prog 92 := tyOne_mk Tryd.underlying92 (by kernel_rfl) rfl
instance tyOne_95 : TyOne Tryd.prog 95 := tyOne_mk Tryd.underlying95 (by kernel_rfl) rfl
instance tyOne_103 : TyOne Tryd.prog 103 := tyOne_mk Tryd.underlying103 (by kernel_rfl) rfl
instance tyS_109 : TyS Tryd.prog 109 3 := ⟨by kernel_rfl, _, Tryd.underlying109⟩
instance tyS_110 : TyS Tryd.prog 110 3 := ⟨by kernel_rfl, _, Tryd.underlying110⟩
instance tyS_114 : TyS Tryd.prog 114 2 := ⟨by kernel_rfl, _, Tryd.underlying114⟩
instance tyS_115 : TyS Tryd.prog 115 2 := ⟨by kernel_rfl, _, Tryd.underlying115⟩
instance tyOne_121 : TyOne Tryd.prog 121 := tyOne_mk Tryd.underlying121 (by kernel_rfl) rfl
instance tyOne_122 : TyOne Tryd.prog 122 := tyOne_mk Tryd.underlying122 (by kernel_rfl) rfl
instance tyS_123 : TyS Tryd.prog 123 1 := ⟨by kernel_rfl, _, Tryd.underlying123⟩
instance tyS_124 : TyS Tryd.prog 124 1 := ⟨by kernel_rfl, _, Tryd.underlying124⟩
instance tyS_128 : TyS Tryd.prog 128 4 := ⟨by kernel_rfl, _, Tryd.underlying128⟩
instance tyS_129 : TyS Tryd.prog 129 4 := ⟨by kernel_rfl, _, Tryd.underlying129⟩
instance tyS_131 : TyS Tryd.prog 131 0 := ⟨by kernel_rfl, _, Tryd.underlying131⟩
instance tyS_132 : TyS Tryd.prog 132 0 := ⟨by kernel_rfl, _, Tryd.underlying132⟩
instance tyOne_134 : TyOne Tryd.prog 134 := tyOne_mk Tryd.underlying134 (by kernel_rfl) rfl
instance tyOne_135 : TyOne Tryd.prog 135 := tyOne_mk Tryd.underlying135 (by kernel_rfl) rfl
instance tyOne_137 : TyOne Tryd.prog 137 := tyOne_mk Tryd.underlying137 (by kernel_rfl) rfl
instance tyOne_138 : TyOne Tryd.prog 138 := tyOne_mk Tryd.underlying138 (by kernel_rfl) rfl
instance tyS_139 : TyS Tryd.prog 139 11 := ⟨by kernel_rfl, _, Tryd.underlying139⟩
instance tyS_140 : TyS Tryd.prog 140 11 := ⟨by kernel_rfl, _, Tryd.underlying140⟩
instance tyOne_141 : TyOne Tryd.prog 141 := tyOne_mk Tryd.underlying141 (by kernel_rfl) rfl
end
end Go.Proofs.YtnjldofiogbolaaDoor
