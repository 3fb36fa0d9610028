




/-
  The sizes of the program's types, as instances.
-/
import Derived.Test.YtjcpfldobiekbaaDoorRows
import Derived.Test.YtjcpfldobiekbaaDoorAuto
import Derived.Test.YtjcpfldobiekbaaDoorStrSet
namespace Go.Proofs.YtjcpfldobiekbaaDoor
open Go.RowKit Go.Sl
section
set_option maxRecDepth 100000
instance tyOne_2 : TyOne Tryd.prog 2 := tyOne_mk Tryd.underlying2 (by kernel_rfl) rfl
instance tyOne_3 : TyOne Tryd.prog 3 := tyOne_mk Tryd.underlying3 (by kernel_rfl) rfl
instance tyOne_4 : TyOne Tryd.prog 4 := tyOne_mk Tryd.underlying4 (by kernel_rfl) rfl
instance tyOne_5 : TyOne Tryd.prog 5 := tyOne_mk Tryd.underlying5 (by kernel_rfl) rfl
instance tyOne_6 : TyOne Tryd.prog 6 := tyOne_mk Tryd.underlying6 (by kernel_rfl) rfl
instance tyS_7 : TyS Tryd.prog 7 4 := ⟨by kernel_rfl, _, Tryd.underlying7⟩
instance tyS_8 : TyS Tryd.prog 8 4 := ⟨by kernel_rfl, _, Tryd.underlying8⟩
instance tyStr_9 : TyStr Tryd.prog 9 := ⟨Tryd.underlying9⟩
instance tyOne_9 : TyOne Tryd.prog 9 := tyOne_mk Tryd.underlying9 (by kernel_rfl) rfl
instance tyStr_10 : TyStr Tryd.prog 10 := ⟨Tryd.underlying10⟩
instance tyOne_10 : TyOne Tryd.prog 10 := tyOne_mk Tryd.underlying10 (by kernel_rfl) rfl
instance tyStr_11 : TyStr Tryd.prog 11 := ⟨Tryd.underlying11⟩
instance tyOne_11 : TyOne Tryd.prog 11 := tyOne_mk Tryd.underlying11 (by kernel_rfl) rfl
instance tyOne_12 : TyOne Tryd.prog 12 := tyOne_mk Tryd.underlying12 (by kernel_rfl) rfl
instance tyS_13 : TyS Tryd.prog 13 2 := ⟨by kernel_rfl, _, Tryd.underlying13⟩
instance tyS_14 : TyS Tryd.prog 14 2 := ⟨by kernel_rfl, _, Tryd.underlying14⟩
instance tyOne_15 : TyOne Tryd.prog 15 := tyOne_mk Tryd.underlying15 (by kernel_rfl) rfl
instance tyOne_16 : TyOne Tryd.prog 16 := tyOne_mk Tryd.underlying16 (by kernel_rfl) rfl
instance tyOne_17 : TyOne Tryd.prog 17 := tyOne_mk Tryd.underlying17 (by kernel_rfl) rfl
instance tyS_18 : TyS Tryd.prog 18 1 := ⟨by kernel_rfl, _, Tryd.underlying18⟩
instance tyS_19 : TyS Tryd.prog 19 1 := ⟨by kernel_rfl, _, Tryd.underlying19⟩
instance tyOne_21 : TyOne Tryd.prog 21 := tyOne_mk Tryd.underlying21 (by kernel_rfl) rfl
instance tyApp_22 : TyApp Tryd.prog 22 9 1 16 (.string ⟨#[]⟩) := ⟨isSl_mk Tryd.underlying22 (by kernel_rfl) rfl (by decide)⟩
instance tySl_22 : TySl Tryd.prog 22 1 := tySl_mk Tryd.underlying22 (by kernel_rfl)
instance tyOne_22 : TyOne Tryd.prog 22 := tyOne_mk Tryd.underlying22 (by kernel_rfl) rfl
instance tyApp_23 : TyApp Tryd.prog 23 33 2 48 (.agg #[.slice none 0 0, .slice none 0 0]) := ⟨isSl_mk Tryd.underlying23 (by kernel_rfl) rfl (by decide)⟩
instance tySl_23 : TySl Tryd.prog 23 2 := tySl_mk Tryd.underlying23 (by kernel_rfl)
instance tyOne_23 : TyOne Tryd.prog 23 := tyOne_mk Tryd.underlying23 (by kernel_rfl) rfl
instance tyS_24 : TyS Tryd.prog 24 3 := ⟨by kernel_rfl, _, Tryd.underlying24⟩
instance tyS_25 : TyS Tryd.prog 25 3 := ⟨by kernel_rfl, _, Tryd.underlying25⟩
instance tyApp_26 : TyApp Tryd.prog 26 47 3 40 (.agg #[.string ⟨#[]⟩, .string ⟨#[]⟩, .bool false]) := ⟨isSl_mk Tryd.underlying26 (by kernel_rfl) rfl (by decide)⟩
instance tySl_26 : TySl Tryd.prog 26 3 := tySl_mk Tryd.underlying26 (by kernel_rfl)
instance tyOne_26 : TyOne Tryd.prog 26 := tyOne_mk Tryd.underlying26 (by kernel_rfl) rfl
instance tyOne_27 : TyOne Tryd.prog 27 := tyOne_mk Tryd.underlying27 (by kernel_rfl) rfl
instance tyApp_31 : TyApp Tryd.prog 31 42 7 112 (.agg #[.string ⟨#[]⟩, .int .i64 0, .string ⟨#[]⟩, .string ⟨#[]⟩, .slice none 0 0, .slice none 0 0, .int .i64 0]) := ⟨isSl_mk Tryd.underlying31 (by kernel_rfl) rfl (by decide)⟩
instance tySl_31 : TySl Tryd.prog 31 7 := tySl_mk Tryd.underlying31 (by kernel_rfl)
instance tyOne_31 : TyOne Tryd.prog 31 := tyOne_mk Tryd.underlying31 (by kernel_rfl) rfl
instance tyS_32 : TyS Tryd.prog 32 2 := ⟨by kernel_rfl, _, Tryd.underlying32⟩
instance tyS_33 : TyS Tryd.prog 33 2 := ⟨by kernel_rfl, _, Tryd.underlying33⟩
instance tyOne_36 : TyOne Tryd.prog 36 := tyOne_mk Tryd.underlying36 (by kernel_rfl) rfl
instance tyS_37 : TyS Tryd.prog 37 2 := ⟨by kernel_rfl, _, Tryd.underlying37⟩
instance tyS_38 : TyS Tryd.prog 38 2 := ⟨by kernel_rfl, _, Tryd.underlying38⟩
instance tyApp_39 : TyApp Tryd.prog 39 38 2 24 (.agg #[.string ⟨#[]⟩, .float .f64 0]) := ⟨isSl_mk Tryd.underlying39 (by kernel_rfl) rfl (by decide)⟩
instance tySl_39 : TySl Tryd.prog 39 2 := tySl_mk Tryd.underlying39 (by kernel_rfl)
instance tyOne_39 : TyOne Tryd.prog 39 := tyOne_mk Tryd.underlying39 (by kernel_rfl) rfl
instance tyApp_40 : TyApp Tryd.prog 40 45 4 48 (.agg #[.string ⟨#[]⟩, .string ⟨#[]⟩, .int .i64 0, .bool false]) := ⟨isSl_mk Tryd.underlying40 (by kernel_rfl) rfl (by decide)⟩
instance tySl_40 : TySl Tryd.prog 40 4 := tySl_mk Tryd.underlying40 (by kernel_rfl)
instance tyOne_40 : TyOne Tryd.prog 40 := tyOne_mk Tryd.underlying40 (by kernel_rfl) rfl
instance tyS_41 : TyS Tryd.prog 41 7 := ⟨by kernel_rfl, _, Tryd.underlying41⟩
instance tyS_42 : TyS Tryd.prog 42 7 := ⟨by kernel_rfl, _, Tryd.underlying42⟩
instance tyS_44 : TyS Tryd.prog 44 4 := ⟨by kernel_rfl, _, Tryd.underlying44⟩
instance tyS_45 : TyS Tryd.prog 45 4 := ⟨by kernel_rfl, _, Tryd.underlying45⟩
instance tyS_46 : TyS Tryd.prog 46 3 := ⟨by kernel_rfl, _, Tryd.underlying46⟩
instance tyS_47 : TyS Tryd.prog 47 3 := ⟨by kernel_rfl, _, Tryd.underlying47⟩
instance tyApp_50 : TyApp Tryd.prog 50 25 3 56 (.agg #[.int .i64 0, .slice none 0 0, .slice none 0 0]) := ⟨isSl_mk Tryd.underlying50 (by kernel_rfl) rfl (by decide)⟩
instance tySl_50 : TySl Tryd.prog 50 3 := tySl_mk Tryd.underlying50 (by kernel_rfl)
instance tyOne_50 : TyOne Tryd.prog 50 := tyOne_mk Tryd.underlying50 (by kernel_rfl) rfl
instance tyOne_51 : TyOne Tryd.prog 51 := tyOne_mk Tryd.underlying51 (by kernel_rfl) rfl
instance tyOne_53 : TyOne Tryd.prog 53 := tyOne_mk Tryd.underlying53 (by kernel_rfl) rfl
instance tyS_54 : TyS Tryd.prog 54 3 := ⟨by kernel_rfl, _, Tryd.underlying54⟩
instance tyS_55 : TyS Tryd.prog 55 3 := ⟨by kernel_rfl, _, Tryd.underlying55⟩
instance tyApp_60 : TyApp Tryd.prog 60 3 1 8 (.int .i64 0) := ⟨isSl_mk Tryd.underlying60 (by kernel_rfl) rfl (by decide)⟩
instance tySl_60 : TySl Tryd.prog 60 1 := tySl_mk Tryd.underlying60 (by kernel_rfl)
instance tyOne_60 : TyOne Tryd.prog 60 := tyOne_mk Tryd.underlying60 (by kernel_rfl) rfl
instance tySS_63 : TySS Tryd.prog 63 9 4 := ⟨Tryd.underlying63, Tryd.underlying9, Tryd.underlying4, fun w => by kernel_rfl⟩
instance tyOne_63 : TyOne Tryd.prog 63 := tyOne_mk Tryd.underlying63 (by kernel_rfl) rfl
instance tyApp_72 : TyApp Tryd.prog 72 36 1 8 (.float .f64 0) := ⟨isSl_mk Tryd.underlying72 (by kernel_rfl) rfl (by decide)⟩
instance tySl_72 : TySl Tryd.prog 72 1 := tySl_mk Tryd.underlying72 (by kernel_rfl)
instance tyOne_72 : TyOne Tryd.prog 72 := tyOne_mk Tryd.underlying72 (by kernel_rfl) rfl
instance tyS_74 : TyS Tryd.prog 74 3 := ⟨by kernel_rfl, _, Tryd.underlying74⟩
instance tyS_75 : TyS Tryd.prog 75 3 := ⟨by kernel_rfl, _, Tryd.underlying75⟩
instance tyApp_78 : TyApp Tryd.prog 78 5 1 1 (.int .u8 0) := ⟨isSl_mk Tryd.underlying78 (by kernel_rfl) rfl (by decide)⟩
instance tySl_78 : TySl Tryd.prog 78 1 := tySl_mk Tryd.underlying78 (by kernel_rfl)
instance tyBytes_78 : TyBytes Tryd.prog 78 := ⟨_, Tryd.underlying78, Tryd.underlying5⟩
instance tyOne_78 : TyOne Tryd.prog 78 := tyOne_mk Tryd.underlying78 (by kernel_rfl) rfl
instance tyOne_91 : TyOne Tryd.prog 91 := tyOne_mk Tryd.underlying91 (by kernel_rfl) rfl
instance tyOne_94 : TyOne Tryd.prog 94 := tyOne_mk Tryd.underlying94 (by kernel_rfl) rfl
instance tyOne_96 : TyOne Tryd.prog 96 := tyOne_mk Tryd.underlying96 (by kernel_rfl) rfl
instance tyOne_121 : TyOne Tryd.prog 121 := tyOne_mk Tryd.underlying121 (by kernel_rfl) rfl
instance tyS_129 : TyS Tryd.prog 129 2 := ⟨by kernel_rfl, _, Tryd.underlying129⟩
instance tyS_130 : TyS Tryd.prog 130 2 := ⟨by kernel_rfl, _, Tryd.underlying130⟩
instance tyOne_133 : TyOne Tryd.prog 133 := tyOne_mk Tryd.underlying133 (by kernel_rfl) rfl
instance tyS_137 : TyS Tryd.prog 137 4 := ⟨by kernel_rfl, _, Tryd.underlying137⟩
instance tyS_138 : TyS Tryd.prog 138 4 := ⟨by kernel_rfl, _, Tryd.underlying138⟩
instance tyS_140 : TyS Tryd.prog 140 0 := ⟨by kernel_rfl, _, Tryd.underlying140⟩
instance tyS_141 : TyS Tryd.prog 141 0 := ⟨by kernel_rfl, _, Tryd.underlying141⟩
instance tyOne_142 : TyOne Tryd.prog 142 := tyOne_mk Tryd.underlying142 (by kernel_rfl) rfl
instance tyOne_143 : TyOne Tryd.prog 143 := tyOne_mk Tryd.underlying143 (by kernel_rfl) rfl
instance tyOne_145 : TyOne Tryd.prog 145 := tyOne_mk Tryd.underlying145 (by kernel_rfl) rfl
instance tyOne_146 : TyOne Tryd.prog 146 := tyOne_mk Tryd.underlying146 (by kernel_rfl) rfl
instance tyOne_147 : TyOne Tryd.prog 147 := tyOne_mk Tryd.underlying147 (by kernel_rfl) rfl
instance tyS_148 : TyS Tryd.prog 148 11 := ⟨by kernel_rfl, _, Tryd.underlying148⟩
instance tyS_149 : TyS Tryd.prog 149 11 := ⟨by kernel_rfl, _, Tryd.underlying149⟩
instance tyOne_150 : TyOne Tryd.prog 150 := tyOne_mk Tryd.underlying150 (by kernel_rfl) rfl
end
end Go.Proofs.YtjcpfldobiekbaaDoor
