/-
  Walks: small functions of the library's unrounded numbers.
-/
import Derived.Test.YtlblkajnmdhmdaaGreatDoorZNUs
namespace Go.Proofs.YtlblkajnmdhmdaaGreatDoor
set_option linter.unusedVariables false
open Go.RowKit

theorem log2Pow10_walk (x : Int) (h1 : -1000000 ≤ x) (h2 : x ≤ 1000000) (w : World) : Calls Tryz.prog 203 #[.int .i64 x] w fun e w' => e = .returned (.int .i64 (x * 108853 / 32768)) ∧ w' = w := by
  have hf : IntKind.i64.wrap (x * 108853) = x * 108853 := by rw [IntKind.wrap_i64]; omega
  go_enter Tryz.func203, Tryz.ntmps203
  go_wp2
  go_ret
  exact ⟨rfl, rfl⟩
theorem log10Pow2_walk (x : Int) (h1 : -1000000 ≤ x) (h2 : x ≤ 1000000) (w : World) : Calls Tryz.prog 156 #[.int .i64 x] w fun e w' => e = .returned (.int .i64 (x * 78913 / 262144)) ∧ w' = w := by
  have hf : IntKind.i64.wrap (x * 78913) = x * 78913 := by rw [IntKind.wrap_i64]; omega
  go_enter Tryz.func156, Tryz.ntmps156
  go_wp2
  go_ret
  exact ⟨rfl, rfl⟩
theorem unmin_walk (x : Nat) (h : 1 ≤ x) (h2 : x < 2 ^ 61) (w : World) : Calls Tryz.prog 209 #[.int .u64 x] w fun e w' => e = .returned (.int .u64 (4 * x - 2 : Nat)) ∧ w' = w := by
  go_enter Tryz.func209, Tryz.ntmps209
  go_wp2
  go_ret
  refine ⟨?_, rfl⟩
  show Ending.returned (Value.int .u64 ((x : Int) * 4 - 2)) = _
  rw [show ((x : Int) * 4 - 2) = ((4 * x - 2 : Nat) : Int) by omega]
theorem and1_at (a : Nat) (h : a < 2 ^ 64) : bits .and .u64 (a : Int) 1 = ((a % 2 : Nat) : Int) := by
  have h' : (2 : Nat) ^ 64 = 18446744073709551616 := by decide
  rw [h'] at h
  have := bits_and_u64_nat a 1 h (by decide)
  rw [Nat.and_one_is_mod] at this
  exact this
theorem round_walk (u : Nat) (h : u < 2 ^ 63) (w : World) : Calls Tryz.prog 208 #[.int .u64 u] w fun e w' => e = .returned (.int .u64 ((u + 1 + u / 4 % 2) / 4 : Nat)) ∧ w' = w := by
  go_enter Tryz.func208, Tryz.ntmps208
  go_wp2
  go_ret
  refine ⟨?_, rfl⟩
  show Ending.returned (Value.int .u64 (IntKind.u64.wrap ((u : Int) + 1 + bits .and .u64 ((u : Int) / 4) 1) / 4)) = _
  rw [show ((u : Int) / 4) = ((u / 4 : Nat) : Int) by omega, and1_at _ (by omega), show ((u : Int) + 1 + ((u / 4 % 2 : Nat) : Int)) = ((u + 1 + u / 4 % 2 : Nat) : Int) by omega, wrap_nat (by omega)]
  congr 2
end Go.Proofs.YtlblkajnmdhmdaaGreatDoor
