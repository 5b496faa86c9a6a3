/-
  Walk: impl.ParseNumber, what numeral found.
-/
import Derived.Test.YtlblkajnmdhmdaaGreatDoorZNNm
namespace Go.Proofs.YtlblkajnmdhmdaaGreatDoor
set_option linter.unusedVariables false
open Go.RowKit Lib Go.Op NR
theorem num_cells {w : World} {g : Nat} {x y z : Value} {T : TypeId} (hh : w.heap[g]? = some (.cells #[x, y, z] T (0, 0))) :
  (w.cell? ⟨g, 0, none⟩ = some x ∧ w.cell? ⟨g, 1, none⟩ = some y ∧ w.cell? ⟨g, 2, none⟩ = some z) ∧ w.frozen? ⟨g, 0, none⟩ = false ∧ w.frozen? ⟨g, 1, none⟩ = false ∧ w.frozen? ⟨g, 2, none⟩ = false :=
 ⟨⟨by simp [World.cell?, hh], by simp [World.cell?, hh], by simp [World.cell?, hh]⟩, by simp [World.frozen?, hh], by simp [World.frozen?, hh], by simp [World.frozen?, hh]⟩
end Go.Proofs.YtlblkajnmdhmdaaGreatDoor
