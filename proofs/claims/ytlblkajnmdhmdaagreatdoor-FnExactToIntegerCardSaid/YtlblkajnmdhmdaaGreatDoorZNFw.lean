/-
  Walk: the library's fixedWidthFloat.
-/
import Derived.Test.YtlblkajnmdhmdaaGreatDoorZNPs
import Derived.Deep.Draws
import Derived.Deep.QuietTactic
import Derived.BigQuiet
namespace Go.Proofs.YtlblkajnmdhmdaaGreatDoor
set_option linter.unusedVariables false
open Go.RowKit Lib
theorem flip {P : Program} {f : FuncId} {args : Array Value} {w : World} {v : Ending} (h : Calls P f args w fun e w' => e = v ∧ w' = w) : Calls P f args w fun e w' => e = v ∧ w = w' := h.mono fun _ _ ⟨a, b⟩ => ⟨a, b.symm⟩
/-- uint64pow10 lies in its block. -/
def T10 (w : World) : Prop := ∀ i : Nat, i < 20 → w.cell? ⟨3, i, none⟩ = some (.int .u64 ((10 ^ i : Nat) : Int))
theorem P10.below {w w' : World} (h : P10 w) (hs : 16 < w.heap.size) (hb : Below w.heap.size w w') : P10 w' := fun i hi =>
 ⟨(hb.cell (p := ⟨15, i * 2, none⟩) (by show 15 < _; omega)).trans (h i hi).1, (hb.cell (p := ⟨15, i * 2 + 1, none⟩) (by show 15 < _; omega)).trans (h i hi).2⟩
theorem T10.below {w w' : World} (h : T10 w) (hs : 16 < w.heap.size) (hb : Below w.heap.size w w') : T10 w' := fun i hi =>
 (hb.cell (p := ⟨3, i, none⟩) (by show 3 < _; omega)).trans (h i hi)
theorem below_drewN {B : Nat} {a w : World} (h : Below B a w) (n : Nat) : Below B a (w.drewN n) := ⟨h.os, h.tape, h.output, h.size, h.block⟩
end Go.Proofs.YtlblkajnmdhmdaaGreatDoor
