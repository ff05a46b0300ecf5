import Derived.Test.YtdeleoaeegmhlaaMYv
import Derived.Test.YtdeleoaeegmhlaaMYu
import Derived.Test.YtdeleoaeegmhlaaMRc
namespace Go.Proofs.Ytdeleoaeegmhlaa
open Go.AM Go.PL
set_option linter.unusedVariables false
attribute [local irreducible] fnwp fnwpG fnwpI
theorem preM_ac : preM 10 aDv cDv := ⟨pre_a, pre_c, of_decide_eq_true (by kernel_rfl)⟩
theorem sat_example : Sat Try.prog 29 exSp :=
  fnwp_sat (C := YE) (mkctx_sound ⟨sat_newC, sat_cutC, trivial⟩ trivial) 38 _ _ fun x _ hp => by
    refine (example_nf 0).mpr ?_
    repeat' first | exact rfl | exact .inl rfl | exact .inr rfl | apply And.intro
attribute [local irreducible] roomP isI64 preA preM PL.okV evenB
theorem sat_sanity : Sat Try.prog 10 sanSp :=
  fnwp_sat (C := YX) (mkctx_sound ⟨sat_example, sat_vvalid 10, sat_areasP 10, sat_home 10, sat_route 10, sat_moves 10, sat_joinC, trivial⟩ trivial) 38 _ _ fun x _ hp => by
    refine (sanity_nf 0).mpr ?_
    repeat' first | exact trivial | exact okV_c | exact pre_c | exact pre_a | exact pre_d | exact preM_ac | exact i64c rfl | exact rfl | exact .inl rfl | exact .inr rfl | apply And.intro
    all_goals first | trivial | decide
end Go.Proofs.Ytdeleoaeegmhlaa
