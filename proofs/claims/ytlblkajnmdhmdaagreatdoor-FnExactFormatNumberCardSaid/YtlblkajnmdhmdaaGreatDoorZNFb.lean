/-
  Laws: the functions that the model runs in place: a float's word and back.
-/
import Derived.Test.YtlblkajnmdhmdaaGreatDoorZNSm
import Derived.Laws.Externs
namespace Go.Proofs.YtlblkajnmdhmdaaGreatDoor
open Go.RowKit
theorem frombits_run (m : Nat) (w : World) : Sem.run Tryz.prog (callFunc 192 #[.int .u64 m]) w = .ok (.value (.float .f64 m)) w := by
  rw [run_callFunc_extern (fn := Tryz.f192) (e := Extern.MathFloatBits.float64frombits) (by kernel_rfl) (by kernel_rfl) (by kernel_rfl) (by kernel_rfl) (by kernel_rfl)]
  rfl
theorem mfrombits_run (m : Nat) (w : World) : Sem.run Tryz.prog (callFunc 34 #[.int .u64 m]) w = .ok (.value (.float .f64 m)) w := by
  rw [run_callFunc_extern (fn := Tryz.f34) (e := Extern.MathFloatBits.float64frombits) (by kernel_rfl) (by kernel_rfl) (by kernel_rfl) (by kernel_rfl) (by kernel_rfl)]
  rfl
theorem bits_run (b : Nat) (w : World) : Sem.run Tryz.prog (callFunc 162 #[.float .f64 b]) w = .ok (.value (.int .u64 b)) w := by
  rw [run_callFunc_extern (fn := Tryz.f162) (e := Extern.MathFloatBits.float64bits) (by kernel_rfl) (by kernel_rfl) (by kernel_rfl) (by kernel_rfl) (by kernel_rfl)]
  rfl
theorem mbits_run (b : Nat) (w : World) : Sem.run Tryz.prog (callFunc 79 #[.float .f64 b]) w = .ok (.value (.int .u64 b)) w := by
  rw [run_callFunc_extern (fn := Tryz.f79) (e := Extern.MathFloatBits.float64bits) (by kernel_rfl) (by kernel_rfl) (by kernel_rfl) (by kernel_rfl) (by kernel_rfl)]
  rfl
end Go.Proofs.YtlblkajnmdhmdaaGreatDoor
