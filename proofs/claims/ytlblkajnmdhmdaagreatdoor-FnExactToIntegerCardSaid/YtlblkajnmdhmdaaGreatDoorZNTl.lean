/-
  Walks: what ToInteger's program does with a number: negate, whole.
-/
import Derived.Test.YtlblkajnmdhmdaaGreatDoorZNNs
import Derived.Test.YtlblkajnmdhmdaaGreatDoorZNTm
namespace Go.Proofs.YtlblkajnmdhmdaaGreatDoor
set_option linter.unusedVariables false
open Go.RowKit Lib Go.Op
def wholeEnd : Option Int → Ending
 | some v => .returned (.tuple #[.int .i64 v, .bool true])
 | none => .returned (.tuple #[.int .i64 0, .bool false])
set_option maxRecDepth 100000 in
theorem whole_int (i : Int) (u : Nat) (w : World) :
  Calls Tryz.prog 30 #[.agg #[.bool false, .int .i64 i, .float .f64 u]] w fun e w' => e = .returned (.tuple #[.int .i64 i, .bool true]) ∧ Below w.heap.size w w' := by
 go_enter Tryz.func30, Tryz.ntmps30
 go_wp2_with fail
 go_ret2;exact ⟨rfl, (Below.refl _ _).alloc (Nat.le_refl _) _⟩
theorem trunc_run {u : Nat} {s : Bool} {a : Nat} {b : Int} (hr : FloatKind.f64.decode u = .number s a b) (w : World) : Sem.run Tryz.prog (callFunc 85 #[.float .f64 u]) w = .ok (.value (.float .f64 (FloatKind.f64.encode ((Ieee.Datum.number s a b).integral .zero)))) w := by
 rw [run_callFunc_extern (fn := Tryz.f85) (e := Extern.MathFloor.toIntegral "math.archTrunc" .zero) (by kernel_rfl) (by kernel_rfl) (by kernel_rfl) (by kernel_rfl) (by kernel_rfl)]
 have e : Extern.MathFloor.toIntegral "math.archTrunc" .zero #[.float .f64 u] = pure (.float .f64 (FloatKind.f64.encode ((Ieee.Datum.number s a b).integral .zero))) := by
  show (match FloatKind.f64.decode u with | .nan s t => (if FloatKind.f64.format.quiet t = t then (pure (Value.float .f64 u) : Sem Value) else do let kept ← choose (.extern "math.Floor,Ceil,Trunc,RoundToEven.signallingNaN kept" 2); pure (Value.float .f64 (if kept == 1 then u else FloatKind.f64.encode (.nan s (FloatKind.f64.format.quiet t))))) | d => pure (Value.float .f64 (FloatKind.f64.encode (d.integral .zero)))) = _;rw [hr]
 rw [e];rfl
set_option maxRecDepth 100000 in
theorem trunc_any {u : Nat} {s : Bool} {a : Nat} {b : Int} (hr : FloatKind.f64.decode u = .number s a b) {z : Nat} (hz : FloatKind.f64.encode ((Ieee.Datum.number s a b).integral .zero) = z) (w : World) : Calls Tryz.prog 59 #[.float .f64 u] w fun e w' => e = .returned (.float .f64 z) ∧ w = w' := by
 have ht := trunc_run hr w;rw [hz] at ht;clear hr hz;go_enter Tryz.func59, Tryz.ntmps59
 go_wp2_with fail
 go_ret;exact ⟨rfl, rfl⟩
set_option maxHeartbeats 4000000 in
set_option maxRecDepth 100000 in
theorem whole_flt (i : Int) (u : Nat) (hu : u < 2 ^ 64) (w : World) :
  Calls Tryz.prog 30 #[.agg #[.bool true, .int .i64 i, .float .f64 u]] w fun e w' => e = wholeEnd (NB.wordI u) ∧ Below w.heap.size w w' := by
 rcases NB.whole_cases hu with ⟨hA, hn⟩ | ⟨hA, hB, hn⟩ | ⟨hA, hB, s, a, b, hr, ht, hv⟩
 ·replace hA : (FloatKind.f64.format.order u 14114281232179134464 == some .gt || FloatKind.f64.format.order u 14114281232179134464 == some .eq) = false := hA;rw [hn];clear hn hu;go_enter Tryz.func30, Tryz.ntmps30
  go_wp2_with fail
  go_region
  all_goals (go_wp2_with fail)
  all_goals (go_ret2; exact ⟨rfl, ((Below.refl _ _).alloc (Nat.le_refl _) _).drew⟩)
 ·replace hA : (FloatKind.f64.format.order u 14114281232179134464 == some .gt || FloatKind.f64.format.order u 14114281232179134464 == some .eq) = true := hA;replace hB : (FloatKind.f64.format.order u 4890909195324358656 == some .lt) = false := hB;rw [hn];clear hn hu;go_enter Tryz.func30, Tryz.ntmps30
  go_wp2_with fail
  go_region
  all_goals (go_wp2_with fail)
  all_goals (go_ret2; exact ⟨rfl, ((Below.refl _ _).alloc (Nat.le_refl _) _).drew⟩)
 ·replace hA : (FloatKind.f64.format.order u 14114281232179134464 == some .gt || FloatKind.f64.format.order u 14114281232179134464 == some .eq) = true := hA;replace hB : (FloatKind.f64.format.order u 4890909195324358656 == some .lt) = true := hB;obtain ⟨z, hz⟩ : ∃ z, FloatKind.f64.encode ((Ieee.Datum.number s a b).integral .zero) = z := ⟨_, rfl⟩;have htr := fun w => trunc_any hr hz w;replace ht : (FloatKind.f64.format.order u z == some .eq) = (NB.wordI u).isSome := (by rw [← hz]; exact ht)
  cases hwv : NB.wordI u with
  | none =>
   rw [hwv] at ht;replace ht : (FloatKind.f64.format.order u z == some .eq) = false := ht;clear hwv hv hu hr hz;go_enter Tryz.func30, Tryz.ntmps30
   go_wp2_with fail
   go_region_with (go_at_call 59; refine (htr _).mono ?_; rintro e w' ⟨rfl, rfl⟩)
   all_goals (go_wp2_with fail)
   all_goals (go_ret2; exact ⟨rfl, ((Below.refl _ _).alloc (Nat.le_refl _) _).drew⟩)
  | some v =>
   rw [hwv] at ht;replace ht : (FloatKind.f64.format.order u z == some .eq) = true := ht
   have hcv : ∀ w, (convert 48 3 (.float .f64 u)).run Tryz.prog w = .ok (.int .i64 v) w := fun w => run_convert_float_int w _ _ .f64 .i64 u v (by kernel_rfl) (by kernel_rfl) (by
    have h1 := hv v hwv;have h2 := NB.wordI_range hwv;unfold floatToIntVal;rw [show FloatKind.f64.decode u = _ from hr, h1]
    exact if_pos ⟨h2.1, h2.2⟩)
   clear hu hz hwv hv hr;go_enter Tryz.func30, Tryz.ntmps30
   go_wp2_with fail
   go_region_with (go_at_call 59; refine (htr _).mono ?_; rintro e w' ⟨rfl, rfl⟩)
   all_goals (go_wp2_with (simp only [hcv]))
   all_goals (go_ret2; exact ⟨rfl, ((Below.refl _ _).alloc (Nat.le_refl _) _).drew⟩)
end Go.Proofs.YtlblkajnmdhmdaaGreatDoor
