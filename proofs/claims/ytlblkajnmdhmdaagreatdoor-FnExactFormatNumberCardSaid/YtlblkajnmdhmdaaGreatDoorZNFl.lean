/-
  Walks: math.IsInf, math.Signbit, impl.fltN.
-/
import Derived.Test.YtlblkajnmdhmdaaGreatDoorZNOr
import Derived.Test.YtlblkajnmdhmdaaGreatDoorZNFb
import Derived.Lib.Hide
namespace Go.Proofs.YtlblkajnmdhmdaaGreatDoor
set_option linter.unusedVariables false
open Go.RowKit Lib Go.Op
theorem store_float {P : Program} {w : World} {a : Addr} {k : FloatKind} {n : Nat} {m : Mode} : (store a (.float k n) m).run P w = stored P w a (.float k n) m := run_store P w a _ m rfl
theorem neg_run {P : Program} {w : World} (b : Nat) : Sem.run P (unary .neg (.float .f64 b)) w = .ok (.float .f64 (negFloat .f64 b)) w := rfl
theorem isinf_pos (b : Nat) (B : Bool) (w : World) (hB : (FloatKind.f64.format.order b 9218868437227405311 == some .gt) = B) :
    Calls Tryz.prog 50 #[.float .f64 b, .int .i64 1] w fun e w' => e = .returned (.bool B) ∧ w = w' := by
  go_enter Tryz.func50, Tryz.ntmps50
  go_wp2_with fail
  go_ret
  exact ⟨rfl, rfl⟩
set_option maxRecDepth 100000 in
theorem isinf_neg (b : Nat) (B : Bool) (w : World) (hB : (FloatKind.f64.format.order (negFloat .f64 b) 9218868437227405311 == some .gt) = B) :
    Calls Tryz.prog 50 #[.float .f64 b, .int .i64 (-1)] w fun e w' => e = .returned (.bool B) ∧ w = w' := by
  go_enter Tryz.func50, Tryz.ntmps50
  go_wp2_with fail
  rw [neg_run]
  go_simp
  go_wp2_with fail
  go_ret
  exact ⟨rfl, rfl⟩
set_option maxRecDepth 100000 in
theorem signbit_any (b : Nat) (B : Bool) (w : World) (hb : b < 2 ^ 64) (hB : decide (2 ^ 63 ≤ b) = B) :
    Calls Tryz.prog 62 #[.float .f64 b] w fun e w' => e = .returned (.bool B) ∧ w = w' := by
  have hw : decide (wrap64 (b : Int) < 0) = B := by
    rw [← hB]; unfold wrap64
    by_cases h : 2 ^ 63 ≤ b
    · rw [decide_eq_true h]; exact decide_eq_true (by omega)
    · rw [decide_eq_false h]; exact decide_eq_false (by omega)
  clear hB hb
  go_enter Tryz.func62, Tryz.ntmps62
  go_wp2_with fail
  rw [mbits_run]
  go_simp
  go_wp2_with fail
  go_ret
  exact ⟨rfl, rfl⟩
set_option maxRecDepth 100000 in
theorem fltN_num (b : Nat) (w : World) (hB : (FloatKind.f64.format.order b b == some .eq) = true) :
    Calls Tryz.prog 33 #[.float .f64 b] w fun e w' => e = .returned (.agg #[.bool true, .int .i64 0, .float .f64 b]) ∧ Below w.heap.size w w' := by
  have hB2 : (FloatKind.f64.format.order b b != some .eq) = false := by simpa [bne] using hB
  go_enter Tryz.func33, Tryz.ntmps33
  go_wp2_with fail
  rw [store_float]
  go_simp
  go_wp2_with fail
  exact bodyPost_ret (v := .agg #[.bool true, .int .i64 0, .float .f64 b]) (by simp [results, Tryz.results33, go_sem]) rfl ⟨rfl, (Below.refl _ _).alloc (Nat.le_refl _) _⟩
set_option maxRecDepth 100000 in
theorem fltN_nan (b : Nat) (w : World) (hB : (FloatKind.f64.format.order b b == some .eq) = false) :
    Calls Tryz.prog 33 #[.float .f64 b] w fun e w' => e = .returned (.agg #[.bool true, .int .i64 0, .float .f64 9221120237041090560]) ∧ Below w.heap.size w w' := by
  have hB2 : (FloatKind.f64.format.order b b != some .eq) = true := by simpa [bne] using hB
  go_enter Tryz.func33, Tryz.ntmps33
  go_wp2_with fail
  rw [show (9221120237041090560 : Int) = ((9221120237041090560 : Nat) : Int) from rfl, mfrombits_run]
  go_simp
  go_wp2_with fail
  rw [store_float]
  go_simp
  go_wp2_with fail
  exact bodyPost_ret (v := .agg #[.bool true, .int .i64 0, .float .f64 9221120237041090560]) (by simp [results, Tryz.results33, go_sem]) rfl ⟨rfl, (Below.refl _ _).alloc (Nat.le_refl _) _⟩
end Go.Proofs.YtlblkajnmdhmdaaGreatDoor
