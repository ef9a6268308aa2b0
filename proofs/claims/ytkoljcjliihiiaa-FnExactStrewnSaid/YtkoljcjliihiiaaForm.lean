/- The functions' code is the program's. Printed by a program of ours. -/
import Derived.Test.YtkoljcjliihiiaaCode
import Derived.Test.YtkoljcjliihiiaaVmTop
import Derived.Test.YtkoljcjliihiiaaProg
namespace Go.Proofs.Ytkoljcjliihiiaa.VM
open Go Go.Proofs
theorem ok_laws_FnDenies : OkF Try.prog writes (n_laws_FnDenies, f_laws_FnDenies) := ⟨_, Try.func3, rfl, _, rfl, by kernel_rfl, by kernel_rfl, by decide, by decide, by decide⟩
theorem ok_laws_FnExactDenyOf : OkF Try.prog writes (n_laws_FnExactDenyOf, f_laws_FnExactDenyOf) := ⟨_, Try.func4, rfl, _, rfl, by kernel_rfl, by kernel_rfl, by decide, by decide, by decide⟩
theorem ok_laws_FnExactStripped : OkF Try.prog writes (n_laws_FnExactStripped, f_laws_FnExactStripped) := ⟨_, Try.func5, rfl, _, rfl, by kernel_rfl, by kernel_rfl, by decide, by decide, by decide⟩
theorem ok_laws_FnExactGathered : OkF Try.prog writes (n_laws_FnExactGathered, f_laws_FnExactGathered) := ⟨_, Try.func6, rfl, _, rfl, by kernel_rfl, by kernel_rfl, by decide, by decide, by decide⟩
theorem ok_laws_FnExactStrewn : OkF Try.prog writes (n_laws_FnExactStrewn, f_laws_FnExactStrewn) := ⟨_, Try.func7, rfl, _, rfl, by kernel_rfl, by kernel_rfl, by decide, by decide, by decide⟩
theorem ok_laws_big : OkF Try.prog writes (n_laws_big, f_laws_big) := ⟨_, Try.func8, rfl, _, rfl, by kernel_rfl, by kernel_rfl, by decide, by decide, by decide⟩
theorem ok_spec_DrawDenyOf : OkF Try.prog writes (n_spec_DrawDenyOf, f_spec_DrawDenyOf) := ⟨_, Try.func9, rfl, _, rfl, by kernel_rfl, by kernel_rfl, by decide, by decide, by decide⟩
theorem ok_impl_DenyOf : OkF Try.prog writes (n_impl_DenyOf, f_impl_DenyOf) := ⟨_, Try.func10, rfl, _, rfl, by kernel_rfl, by kernel_rfl, by decide, by decide, by decide⟩
theorem ok_laws_szAnswerS : OkF Try.prog writes (n_laws_szAnswerS, f_laws_szAnswerS) := ⟨_, Try.func11, rfl, _, rfl, by kernel_rfl, by kernel_rfl, by decide, by decide, by decide⟩
theorem ok_spec_DenyOf : OkF Try.prog writes (n_spec_DenyOf, f_spec_DenyOf) := ⟨_, Try.func12, rfl, _, rfl, by kernel_rfl, by kernel_rfl, by decide, by decide, by decide⟩
theorem ok_laws_toAnswerS : OkF Try.prog writes (n_laws_toAnswerS, f_laws_toAnswerS) := ⟨_, Try.func13, rfl, _, rfl, by kernel_rfl, by kernel_rfl, by decide, by decide, by decide⟩
theorem ok_laws_eqInt64S : OkF Try.prog writes (n_laws_eqInt64S, f_laws_eqInt64S) := ⟨_, Try.func14, rfl, _, rfl, by kernel_rfl, by kernel_rfl, by decide, by decide, by decide⟩
theorem ok_laws_eqAnswerS : OkF Try.prog writes (n_laws_eqAnswerS, f_laws_eqAnswerS) := ⟨_, Try.func15, rfl, _, rfl, by kernel_rfl, by kernel_rfl, by decide, by decide, by decide⟩
theorem ok_laws_markAnswerS : OkF Try.prog writes (n_laws_markAnswerS, f_laws_markAnswerS) := ⟨_, Try.func16, rfl, _, rfl, by kernel_rfl, by kernel_rfl, by decide, by decide, by decide⟩
theorem ok_laws_markInt64S : OkF Try.prog writes (n_laws_markInt64S, f_laws_markInt64S) := ⟨_, Try.func17, rfl, _, rfl, by kernel_rfl, by kernel_rfl, by decide, by decide, by decide⟩
theorem ok_laws_heldInt64S : OkF Try.prog writes (n_laws_heldInt64S, f_laws_heldInt64S) := ⟨_, Try.func18, rfl, _, rfl, by kernel_rfl, by kernel_rfl, by decide, by decide, by decide⟩
theorem ok_laws_szActS : OkF Try.prog writes (n_laws_szActS, f_laws_szActS) := ⟨_, Try.func19, rfl, _, rfl, by kernel_rfl, by kernel_rfl, by decide, by decide, by decide⟩
theorem ok_spec_Stripped : OkF Try.prog writes (n_spec_Stripped, f_spec_Stripped) := ⟨_, Try.func20, rfl, _, rfl, by kernel_rfl, by kernel_rfl, by decide, by decide, by decide⟩
theorem ok_laws_toActS : OkF Try.prog writes (n_laws_toActS, f_laws_toActS) := ⟨_, Try.func21, rfl, _, rfl, by kernel_rfl, by kernel_rfl, by decide, by decide, by decide⟩
theorem ok_impl_Stripped : OkF Try.prog writes (n_impl_Stripped, f_impl_Stripped) := ⟨_, Try.func22, rfl, _, rfl, by kernel_rfl, by kernel_rfl, by decide, by decide, by decide⟩
theorem ok_laws_eqActS : OkF Try.prog writes (n_laws_eqActS, f_laws_eqActS) := ⟨_, Try.func23, rfl, _, rfl, by kernel_rfl, by kernel_rfl, by decide, by decide, by decide⟩
theorem ok_laws_markActS : OkF Try.prog writes (n_laws_markActS, f_laws_markActS) := ⟨_, Try.func24, rfl, _, rfl, by kernel_rfl, by kernel_rfl, by decide, by decide, by decide⟩
theorem ok_laws_heldActS : OkF Try.prog writes (n_laws_heldActS, f_laws_heldActS) := ⟨_, Try.func25, rfl, _, rfl, by kernel_rfl, by kernel_rfl, by decide, by decide, by decide⟩
theorem ok_spec_Gathered : OkF Try.prog writes (n_spec_Gathered, f_spec_Gathered) := ⟨_, Try.func26, rfl, _, rfl, by kernel_rfl, by kernel_rfl, by decide, by decide, by decide⟩
theorem ok_impl_Gathered : OkF Try.prog writes (n_impl_Gathered, f_impl_Gathered) := ⟨_, Try.func27, rfl, _, rfl, by kernel_rfl, by kernel_rfl, by decide, by decide, by decide⟩
theorem ok_laws_heldAnswerS : OkF Try.prog writes (n_laws_heldAnswerS, f_laws_heldAnswerS) := ⟨_, Try.func28, rfl, _, rfl, by kernel_rfl, by kernel_rfl, by decide, by decide, by decide⟩
theorem ok_laws_szStrewS : OkF Try.prog writes (n_laws_szStrewS, f_laws_szStrewS) := ⟨_, Try.func29, rfl, _, rfl, by kernel_rfl, by kernel_rfl, by decide, by decide, by decide⟩
theorem ok_spec_Strewn : OkF Try.prog writes (n_spec_Strewn, f_spec_Strewn) := ⟨_, Try.func30, rfl, _, rfl, by kernel_rfl, by kernel_rfl, by decide, by decide, by decide⟩
theorem ok_laws_toStrewS : OkF Try.prog writes (n_laws_toStrewS, f_laws_toStrewS) := ⟨_, Try.func31, rfl, _, rfl, by kernel_rfl, by kernel_rfl, by decide, by decide, by decide⟩
theorem ok_impl_Strewn : OkF Try.prog writes (n_impl_Strewn, f_impl_Strewn) := ⟨_, Try.func32, rfl, _, rfl, by kernel_rfl, by kernel_rfl, by decide, by decide, by decide⟩
theorem ok_laws_eqStrewS : OkF Try.prog writes (n_laws_eqStrewS, f_laws_eqStrewS) := ⟨_, Try.func33, rfl, _, rfl, by kernel_rfl, by kernel_rfl, by decide, by decide, by decide⟩
theorem ok_laws_markStrewS : OkF Try.prog writes (n_laws_markStrewS, f_laws_markStrewS) := ⟨_, Try.func34, rfl, _, rfl, by kernel_rfl, by kernel_rfl, by decide, by decide, by decide⟩
theorem ok_spec_l1Open : OkF Try.prog writes (n_spec_l1Open, f_spec_l1Open) := ⟨_, Try.func35, rfl, _, rfl, by kernel_rfl, by kernel_rfl, by decide, by decide, by decide⟩
theorem ok_spec_l1Rd_below : OkF Try.prog writes (n_spec_l1Rd_below, f_spec_l1Rd_below) := ⟨_, Try.func36, rfl, _, rfl, by kernel_rfl, by kernel_rfl, by decide, by decide, by decide⟩
theorem ok_spec_l1Rd_off : OkF Try.prog writes (n_spec_l1Rd_off, f_spec_l1Rd_off) := ⟨_, Try.func37, rfl, _, rfl, by kernel_rfl, by kernel_rfl, by decide, by decide, by decide⟩
theorem ok_spec_l1Rd_once : OkF Try.prog writes (n_spec_l1Rd_once, f_spec_l1Rd_once) := ⟨_, Try.func38, rfl, _, rfl, by kernel_rfl, by kernel_rfl, by decide, by decide, by decide⟩
theorem ok_spec_l1In : OkF Try.prog writes (n_spec_l1In, f_spec_l1In) := ⟨_, Try.func39, rfl, _, rfl, by kernel_rfl, by kernel_rfl, by decide, by decide, by decide⟩
theorem ok_laws_toAnswer : OkF Try.prog writes (n_laws_toAnswer, f_laws_toAnswer) := ⟨_, Try.func40, rfl, _, rfl, by kernel_rfl, by kernel_rfl, by decide, by decide, by decide⟩
theorem ok_laws_eqAnswer : OkF Try.prog writes (n_laws_eqAnswer, f_laws_eqAnswer) := ⟨_, Try.func41, rfl, _, rfl, by kernel_rfl, by kernel_rfl, by decide, by decide, by decide⟩
theorem ok_laws_szAct : OkF Try.prog writes (n_laws_szAct, f_laws_szAct) := ⟨_, Try.func42, rfl, _, rfl, by kernel_rfl, by kernel_rfl, by decide, by decide, by decide⟩
theorem ok_spec_l15Quiet : OkF Try.prog writes (n_spec_l15Quiet, f_spec_l15Quiet) := ⟨_, Try.func43, rfl, _, rfl, by kernel_rfl, by kernel_rfl, by decide, by decide, by decide⟩
theorem ok_spec_l15Copy : OkF Try.prog writes (n_spec_l15Copy, f_spec_l15Copy) := ⟨_, Try.func44, rfl, _, rfl, by kernel_rfl, by kernel_rfl, by decide, by decide, by decide⟩
theorem ok_laws_toAct : OkF Try.prog writes (n_laws_toAct, f_laws_toAct) := ⟨_, Try.func45, rfl, _, rfl, by kernel_rfl, by kernel_rfl, by decide, by decide, by decide⟩
theorem ok_impl_isExtra : OkF Try.prog writes (n_impl_isExtra, f_impl_isExtra) := ⟨_, Try.func46, rfl, _, rfl, by kernel_rfl, by kernel_rfl, by decide, by decide, by decide⟩
theorem ok_impl_ownAct : OkF Try.prog writes (n_impl_ownAct, f_impl_ownAct) := ⟨_, Try.func47, rfl, _, rfl, by kernel_rfl, by kernel_rfl, by decide, by decide, by decide⟩
theorem ok_laws_eqAct : OkF Try.prog writes (n_laws_eqAct, f_laws_eqAct) := ⟨_, Try.func48, rfl, _, rfl, by kernel_rfl, by kernel_rfl, by decide, by decide, by decide⟩
theorem ok_laws_toStrew : OkF Try.prog writes (n_laws_toStrew, f_laws_toStrew) := ⟨_, Try.func49, rfl, _, rfl, by kernel_rfl, by kernel_rfl, by decide, by decide, by decide⟩
theorem ok_impl_within : OkF Try.prog writes (n_impl_within, f_impl_within) := ⟨_, Try.func50, rfl, _, rfl, by kernel_rfl, by kernel_rfl, by decide, by decide, by decide⟩
theorem ok_impl_size_impl_Act : OkF Try.prog writes (n_impl_size_impl_Act, f_impl_size_impl_Act) := ⟨_, Try.func51, rfl, _, rfl, by kernel_rfl, by kernel_rfl, by decide, by decide, by decide⟩
theorem ok_laws_eqStrew : OkF Try.prog writes (n_laws_eqStrew, f_laws_eqStrew) := ⟨_, Try.func52, rfl, _, rfl, by kernel_rfl, by kernel_rfl, by decide, by decide, by decide⟩
theorem ok_spec_l1Rd_next : OkF Try.prog writes (n_spec_l1Rd_next, f_spec_l1Rd_next) := ⟨_, Try.func53, rfl, _, rfl, by kernel_rfl, by kernel_rfl, by decide, by decide, by decide⟩
theorem ok_spec_l1Rd_near : OkF Try.prog writes (n_spec_l1Rd_near, f_spec_l1Rd_near) := ⟨_, Try.func54, rfl, _, rfl, by kernel_rfl, by kernel_rfl, by decide, by decide, by decide⟩
theorem ok_laws_szInt64S : OkF Try.prog writes (n_laws_szInt64S, f_laws_szInt64S) := ⟨_, Try.func55, rfl, _, rfl, by kernel_rfl, by kernel_rfl, by decide, by decide, by decide⟩
theorem ok_laws_toInt64S : OkF Try.prog writes (n_laws_toInt64S, f_laws_toInt64S) := ⟨_, Try.func56, rfl, _, rfl, by kernel_rfl, by kernel_rfl, by decide, by decide, by decide⟩
theorem ok_spec_l1Rd_word : OkF Try.prog writes (n_spec_l1Rd_word, f_spec_l1Rd_word) := ⟨_, Try.func58, rfl, _, rfl, by kernel_rfl, by kernel_rfl, by decide, by decide, by decide⟩
set_option maxRecDepth 100000 in
theorem tab_ok : AllOk Try.prog writes tabL := .cons ok_laws_FnDenies (.cons ok_laws_FnExactDenyOf (.cons ok_laws_FnExactStripped (.cons ok_laws_FnExactGathered (.cons ok_laws_FnExactStrewn (.cons ok_laws_big (.cons ok_spec_DrawDenyOf (.cons ok_impl_DenyOf (.cons ok_laws_szAnswerS (.cons ok_spec_DenyOf (.cons ok_laws_toAnswerS (.cons ok_laws_eqInt64S (.cons ok_laws_eqAnswerS (.cons ok_laws_markAnswerS (.cons ok_laws_markInt64S (.cons ok_laws_heldInt64S (.cons ok_laws_szActS (.cons ok_spec_Stripped (.cons ok_laws_toActS (.cons ok_impl_Stripped (.cons ok_laws_eqActS (.cons ok_laws_markActS (.cons ok_laws_heldActS (.cons ok_spec_Gathered (.cons ok_impl_Gathered (.cons ok_laws_heldAnswerS (.cons ok_laws_szStrewS (.cons ok_spec_Strewn (.cons ok_laws_toStrewS (.cons ok_impl_Strewn (.cons ok_laws_eqStrewS (.cons ok_laws_markStrewS (.cons ok_spec_l1Open (.cons ok_spec_l1Rd_below (.cons ok_spec_l1Rd_off (.cons ok_spec_l1Rd_once (.cons ok_spec_l1In (.cons ok_laws_toAnswer (.cons ok_laws_eqAnswer (.cons ok_laws_szAct (.cons ok_spec_l15Quiet (.cons ok_spec_l15Copy (.cons ok_laws_toAct (.cons ok_impl_isExtra (.cons ok_impl_ownAct (.cons ok_laws_eqAct (.cons ok_laws_toStrew (.cons ok_impl_within (.cons ok_impl_size_impl_Act (.cons ok_laws_eqStrew (.cons ok_spec_l1Rd_next (.cons ok_spec_l1Rd_near (.cons ok_laws_szInt64S (.cons ok_laws_toInt64S (.cons ok_spec_l1Rd_word (.nil)))))))))))))))))))))))))))))))))))))))))))))))))))))))
theorem ext_ok : ExtOk Try.prog writes extL := .cons (clone_sound ⟨_, 26, 1, false, [.v (.int .i64 0)], Try.func57, by kernel_rfl, by kernel_rfl, Try.underlying26, by kernel_rfl, rfl, rfl⟩ (by kernel_rfl)) (.inl rfl) (.nil)
end Go.Proofs.Ytkoljcjliihiiaa.VM
