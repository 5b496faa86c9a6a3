/-
  Walks: the functions on single bytes (classes, digits, letters) come to the plain words of Pat.
-/
import Derived.Test.YtpinoolagbghnaaDoorProg
import Derived.WalkKit
import Derived.WalkSpells
import Derived.WalkLawsBesides
import Derived.Test.YtpinoolagbghnaaDoorZMat
import Derived.Test.YtpinoolagbghnaaDoorZMem
namespace Go.Proofs.YtpinoolagbghnaaDoor
set_option linter.unusedVariables false
open Go.RowKit Pat


set_option maxHeartbeats 400000 in
theorem isDigit_any (c : Int) (w : World) : Calls Tryd.prog 24 #[.int .u8 c] w fun e w' => e = .returned (.bool (digB c)) ∧ w = w' := by
  go_enter Tryd.func24, Tryd.ntmps24
  go_wp2
  all_goals
    go_ret
    refine ⟨ret_b ?_, rfl⟩
    unfold digB
    rw [Bool.eq_iff_iff]
    simp
    try omega

set_option maxHeartbeats 400000 in
theorem letterB_any (c : Int) (w : World) : Calls Tryd.prog 36 #[.int .u8 c] w fun e w' => e = .returned (.bool (letB c)) ∧ w = w' := by
  go_enter Tryd.func36, Tryd.ntmps36
  go_wp2
  all_goals
    go_ret
    refine ⟨ret_b ?_, rfl⟩
    unfold letB lowB upB
    rw [Bool.eq_iff_iff]
    simp
    try omega

set_option maxHeartbeats 4000000 in
theorem cls_any (k c : Int) (w : World) : Calls Tryd.prog 66 #[.int .u8 k, .int .u8 c] w fun e w' => e = .returned (.tuple #[.bool (inCls k c), .bool (isCls k)]) ∧ w = w' := by
  go_enter Tryd.func66, Tryd.ntmps66
  go_wp2
  all_goals
    go_ret2
    refine ⟨ret_bb ?_ ?_, rfl⟩
  all_goals
    simp only [beq_iff_eq, beq_eq_false_iff_ne] at *
    rw [Bool.eq_iff_iff]
  all_goals
    simp [inCls, isCls, letB, lowB, upB, digB, *]
    try omega
end Go.Proofs.YtpinoolagbghnaaDoor
