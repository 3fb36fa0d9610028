
/-
  The sizes of the program's types, as instances.
-/
import Derived.Test.YtikngjdljdofkaaDoorRows
import Derived.Test.YtikngjdljdofkaaDoorAuto
namespace Go.Proofs.YtikngjdljdofkaaDoor
open Go.RowKit Go.Sl
section
set_option maxRecDepth 100000
instance tyOne_2 : TyOne Tryd.prog 2 := tyOne_mk Tryd.underlying2 (by kernel_rfl) rfl
instance tyOne_3 : TyOne Tryd.prog 3 := tyOne_mk Tryd.underlying3 (by kernel_rfl) rfl
instance tyOne_4 : TyOne Tryd.prog 4 := tyOne_mk Tryd.underlying4 (by kernel_rfl) rfl
instance tyOne_5 : TyOne Tryd.prog 5 := tyOne_mk Tryd.underlying5 (by kernel_rfl) rfl
instance tyOne_6 : TyOne Tryd.prog 6 := tyOne_mk Tryd.underlying6 (by kernel_rfl) rfl
instance tyS_7 : TyS Tryd.prog 7 4 := ⟨by kernel_rfl, _, Tryd.underlying7⟩
instance tyS_8 : TyS Tryd.prog 8 4 := ⟨by kernel_rfl, _, Tryd.underlying8⟩
instance tyStr_9 : TyStr Tryd.prog 9 := ⟨Tryd.underlying9⟩
instance tyOne_9 : TyOne Tryd.prog 9 := tyOne_mk Tryd.underlying9 (by kernel_rfl) rfl
instance tyStr_10 : TyStr Tryd.prog 10 := ⟨Tryd.underlying10⟩
instance tyOne_10 : TyOne Tryd.prog 10 := tyOne_mk Tryd.underlying10 (by kernel_rfl) rfl
instance tyStr_11 : TyStr Tryd.prog 11 := ⟨Tryd.underlying11⟩
instance tyOne_11 : TyOne Tryd.prog 11 := tyOne_mk Tryd.underlying11 (by kernel_rfl) rfl
instance tyOne_12 : TyOne Tryd.prog 12 := tyOne_mk Tryd.underlying12 (by kernel_rfl) rfl
instance tyS_13 : TyS Tryd.prog 13 2 := ⟨by kernel_rfl, _, Tryd.underlying13⟩
instance tyS_14 : TyS Tryd.prog 14 2 := ⟨by kernel_rfl, _, Tryd.underlying14⟩
instance tyOne_15 : TyOne Tryd.prog 15 := tyOne_mk Tryd.underlying15 (by kernel_rfl) rfl
instance tyOne_16 : TyOne Tryd.prog 16 := tyOne_mk Tryd.underlying16 (by kernel_rfl) rfl
instance tyOne_17 : TyOne Tryd.prog 17 := tyOne_mk Tryd.underlying17 (by kernel_rfl) rfl
instance tyS_18 : TyS Tryd.prog 18 1 := ⟨by kernel_rfl, _, Tryd.underlying18⟩
instance tyS_19 : TyS Tryd.prog 19 1 := ⟨by kernel_rfl, _, Tryd.underlying19⟩
instance tyOne_21 : TyOne Tryd.prog 21 := tyOne_mk Tryd.underlying21 (by kernel_rfl) rfl
instance tyApp_22 : TyApp Tryd.prog 22 24 3 40 (.agg #[.string ⟨#[]⟩, .string ⟨#[]⟩, .bool false]) := ⟨isSl_mk Tryd.underlying22 (by kernel_rfl) rfl (by decide)⟩
instance tySl_22 : TySl Tryd.prog 22 3 := tySl_mk Tryd.underlying22 (by kernel_rfl)
instance tyOne_22 : TyOne Tryd.prog 22 := tyOne_mk Tryd.underlying22 (by kernel_rfl) rfl
instance tyS_23 : TyS Tryd.prog 23 3 := ⟨by kernel_rfl, _, Tryd.underlying23⟩
instance tyS_24 : TyS Tryd.prog 24 3 := ⟨by kernel_rfl, _, Tryd.underlying24⟩
instance tyS_28 : TyS Tryd.prog 28 6 := ⟨by kernel_rfl, _, Tryd.underlying28⟩
instance tyS_29 : TyS Tryd.prog 29 6 := ⟨by kernel_rfl, _, Tryd.underlying29⟩
instance tyApp_34 : TyApp Tryd.prog 34 4 1 1 (.bool false) := ⟨isSl_mk Tryd.underlying34 (by kernel_rfl) rfl (by decide)⟩
instance tySl_34 : TySl Tryd.prog 34 1 := tySl_mk Tryd.underlying34 (by kernel_rfl)
instance tyOne_34 : TyOne Tryd.prog 34 := tyOne_mk Tryd.underlying34 (by kernel_rfl) rfl
instance tyApp_35 : TyApp Tryd.prog 35 5 1 1 (.int .u8 0) := ⟨isSl_mk Tryd.underlying35 (by kernel_rfl) rfl (by decide)⟩
instance tySl_35 : TySl Tryd.prog 35 1 := tySl_mk Tryd.underlying35 (by kernel_rfl)
instance tyBytes_35 : TyBytes Tryd.prog 35 := ⟨_, Tryd.underlying35, Tryd.underlying5⟩
instance tyOne_35 : TyOne Tryd.prog 35 := tyOne_mk Tryd.underlying35 (by kernel_rfl) rfl
instance tyOne_38 : TyOne Tryd.prog 38 := tyOne_mk Tryd.underlying38 (by kernel_rfl) rfl
instance tyApp_42 : TyApp Tryd.prog 42 9 1 16 (.string ⟨#[]⟩) := ⟨isSl_mk Tryd.underlying42 (by kernel_rfl) rfl (by decide)⟩
instance tySl_42 : TySl Tryd.prog 42 1 := tySl_mk Tryd.underlying42 (by kernel_rfl)
instance tyOne_42 : TyOne Tryd.prog 42 := tyOne_mk Tryd.underlying42 (by kernel_rfl) rfl
instance tyOne_46 : TyOne Tryd.prog 46 := tyOne_mk Tryd.underlying46 (by kernel_rfl) rfl
instance tyS_55 : TyS Tryd.prog 55 0 := ⟨by kernel_rfl, _, Tryd.underlying55⟩
instance tyS_56 : TyS Tryd.prog 56 0 := ⟨by kernel_rfl, _, Tryd.underlying56⟩
instance tyOne_74 : TyOne Tryd.prog 74 := tyOne_mk Tryd.underlying74 (by kernel_rfl) rfl
instance tyOne_80 : TyOne Tryd.prog 80 := tyOne_mk Tryd.underlying80 (by kernel_rfl) rfl
instance tyOne_83 : TyOne Tryd.prog 83 := tyOne_mk Tryd.underlying83 (by kernel_rfl) rfl
instance tyOne_87 : TyOne Tryd.prog 87 := tyOne_mk Tryd.underlying87 (by kernel_rfl) rfl
instance tyS_91 : TyS Tryd.prog 91 3 := ⟨by kernel_rfl, _, Tryd.underlying91⟩
instance tyS_92 : TyS Tryd.prog 92 3 := ⟨by kernel_rfl, _, Tryd.underlying92⟩
instance tyS_96 : TyS Tryd.prog 96 2 := ⟨by kernel_rfl, _, Tryd.underlying96⟩
instance tyS_97 : TyS Tryd.prog 97 2 := ⟨by kernel_rfl, _, Tryd.underlying97⟩
instance tyOne_104 : TyOne Tryd.prog 104 := tyOne_mk Tryd.underlying104 (by kernel_rfl) rfl
instance tyOne_105 : TyOne Tryd.prog 105 := tyOne_mk Tryd.underlying105 (by kernel_rfl) rfl
instance tyS_106 : TyS Tryd.prog 106 1 := ⟨by kernel_rfl, _, Tryd.underlying106⟩
instance tyS_107 : TyS Tryd.prog 107 1 := ⟨by kernel_rfl, _, Tryd.underlying107⟩
instance tyOne_116 : TyOne Tryd.prog 116 := tyOne_mk Tryd.underlying116 (by kernel_rfl) rfl
instance tyS_124 : TyS Tryd.prog 124 4 := ⟨by kernel_rfl, _, Tryd.underlying124⟩
instance tyS_125 : TyS Tryd.prog 125 4 := ⟨by kernel_rfl, _, Tryd.underlying125⟩
instance tyS_127 : TyS Tryd.prog 127 0 := ⟨by kernel_rfl, _, Tryd.underlying127⟩
instance tyS_128 : TyS Tryd.prog 128 0 := ⟨by kernel_rfl, _, Tryd.underlying128⟩
instance tyOne_130 : TyOne Tryd.prog 130 := tyOne_mk Tryd.underlying130 (by kernel_rfl) rfl
instance tyOne_131 : TyOne Tryd.prog 131 := tyOne_mk Tryd.underlying131 (by kernel_rfl) rfl
instance tyOne_133 : TyOne Tryd.prog 133 := tyOne_mk Tryd.underlying133 (by kernel_rfl) rfl
instance tyOne_134 : TyOne Tryd.prog 134 := tyOne_mk Tryd.underlying134 (by kernel_rfl) rfl
instance tyS_135 : TyS Tryd.prog 135 11 := ⟨by kernel_rfl, _, Tryd.underlying135⟩
instance tyS_136 : TyS Tryd.prog 136 11 := ⟨by kernel_rfl, _, Tryd.underlying136⟩
instance tyOne_137 : TyOne Tryd.prog 137 := tyOne_mk Tryd.underlying137 (by kernel_rfl) rfl
end
end Go.Proofs.YtikngjdljdofkaaDoor
