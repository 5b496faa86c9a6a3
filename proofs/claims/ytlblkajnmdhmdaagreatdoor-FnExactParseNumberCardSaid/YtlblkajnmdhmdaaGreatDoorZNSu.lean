/-
  Plain: what the library's Cut, ReplaceAll, Atoi, Itoa and Repeat make of the text that FormatFloat writes.
  Contracts: the library's Cut, ReplaceAll, Atoi, Itoa and Repeat as num.String calls them.
  Walk: (impl.num).String at a finite float.
  Walk: impl.FormatNumber, every number.
-/
import Derived.Test.YtlblkajnmdhmdaaGreatDoorZNEr
import Derived.Test.YtlblkajnmdhmdaaGreatDoorZNBig8
import Derived.Lib.IndexMore
import Derived.Lib.Replace
import Derived.Lib.Repeat
import Derived.Lib.Atoi
import Derived.Lib.ItoaNum
import Derived.Test.YtlblkajnmdhmdaaGreatDoorZShelf
import Derived.Lib.AtoiErrMem
import Derived.Test.YtlblkajnmdhmdaaGreatDoorZNNs
import Derived.Handy
namespace Go.Proofs.YtlblkajnmdhmdaaGreatDoor
end Go.Proofs.YtlblkajnmdhmdaaGreatDoor

namespace Go.Proofs.YtlblkajnmdhmdaaGreatDoor
set_option linter.unusedVariables false
open Go.RowKit Lib NR NU NB Go.Sort Go.Proofs.YtlblkajnmdhmdaaGreatDoorW.PrintWords
/-- The library's bound on short searches holds a number. -/
def MaxL (w : World) : Prop := ∃ m, w.cell? ⟨5, 0, none⟩ = some (.int .i64 m)
theorem MaxL.below {w w' : World} (h : MaxL w) (hs : 16 < w.heap.size) (hb : Below w.heap.size w w') : MaxL w' := by
  obtain ⟨m, h1⟩ := h
  exact ⟨m, (hb.cell (p := ⟨5, 0, none⟩) (by show 5 < _; omega)).trans h1⟩
theorem below_drew {w : World} (n : Nat) : Below w.heap.size w (w.drewN n) := by
  exact ⟨rfl, rfl, rfl, Nat.le_refl _, fun _ _ => rfl⟩
end Go.Proofs.YtlblkajnmdhmdaaGreatDoor

namespace Go.Proofs.YtlblkajnmdhmdaaGreatDoor
end Go.Proofs.YtlblkajnmdhmdaaGreatDoor

namespace Go.Proofs.YtlblkajnmdhmdaaGreatDoor
set_option linter.unusedVariables false
open Go.RowKit Lib NR NU NB Go.Op Go.Proofs.YtlblkajnmdhmdaaGreatDoorW.PrintWords
theorem WrTabs.below {w w' : World} (h : WrTabs w) (hb : Below w.heap.size w w') : WrTabs w' := by
  have hs := h.size
  exact ⟨h.p10.below hs hb, h.t10.below hs hb, Nat.lt_of_lt_of_le hs hb.size, (hb.cell (p := ⟨4, 0, none⟩) (by show 4 < _; omega)).trans h.opt, Lib.tabBelow_of_tabIs h.tab _ hb⟩
/-- The tables that FormatNumber wants. -/
structure FnTabs (w : World) : Prop where
  wr : WrTabs w
  rd : RdTabs w
  mx : MaxL w
theorem FnTabs.below {w w' : World} (h : FnTabs w) (hb : Below w.heap.size w w') : FnTabs w' := ⟨h.wr.below hb, h.rd.below hb, h.mx.below h.wr.size hb⟩
end Go.Proofs.YtlblkajnmdhmdaaGreatDoor
