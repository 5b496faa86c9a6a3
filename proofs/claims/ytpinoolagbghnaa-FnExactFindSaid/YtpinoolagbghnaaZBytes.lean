/-
  Walks: the functions on single bytes (classes, digits, letters) come to the plain words of Pat.
-/
import Derived.Test.YtpinoolagbghnaaProg
import Derived.WalkKit
import Derived.WalkSpells
import Derived.WalkLawsBesides
import Derived.Test.YtpinoolagbghnaaZMat
import Derived.Test.YtpinoolagbghnaaZMem
namespace Go.Proofs.Ytpinoolagbghnaa
set_option linter.unusedVariables false
open Go.RowKit Pat


set_option maxHeartbeats 400000 in
theorem isDigit_any (c : Int) (w : World) : Calls Try.prog 22 #[.int .u8 c] w fun e w' => e = .returned (.bool (digB c)) ∧ w = w' := by
  go_enter Try.func22, Try.ntmps22
  go_wp2
  all_goals
    go_ret
    refine ⟨ret_b ?_, rfl⟩
    unfold digB
    rw [Bool.eq_iff_iff]
    simp
    try omega

set_option maxHeartbeats 400000 in
theorem letterB_any (c : Int) (w : World) : Calls Try.prog 33 #[.int .u8 c] w fun e w' => e = .returned (.bool (letB c)) ∧ w = w' := by
  go_enter Try.func33, Try.ntmps33
  go_wp2
  all_goals
    go_ret
    refine ⟨ret_b ?_, rfl⟩
    unfold letB lowB upB
    rw [Bool.eq_iff_iff]
    simp
    try omega

set_option maxHeartbeats 4000000 in
theorem cls_any (k c : Int) (w : World) : Calls Try.prog 53 #[.int .u8 k, .int .u8 c] w fun e w' => e = .returned (.tuple #[.bool (inCls k c), .bool (isCls k)]) ∧ w = w' := by
  go_enter Try.func53, Try.ntmps53
  go_wp2
  all_goals
    go_ret2
    refine ⟨ret_bb ?_ ?_, rfl⟩
  all_goals
    simp only [beq_iff_eq, beq_eq_false_iff_ne] at *
    rw [Bool.eq_iff_iff]
  all_goals
    simp [inCls, isCls, letB, lowB, upB, digB, *]
    try omega
end Go.Proofs.Ytpinoolagbghnaa
