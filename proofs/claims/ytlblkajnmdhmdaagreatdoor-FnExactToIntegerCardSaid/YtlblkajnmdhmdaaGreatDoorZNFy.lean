/-
  Walk: the library's fmtEFG at the format 'e'.
  Walk: the library's ftoa64 at the format 'e'.
  Walk: the library's ftoa64 at 0, and FormatFloat at the format 'e'.
  Walk: FormatFloat at the format 'e'.
-/
import Derived.Test.YtlblkajnmdhmdaaGreatDoorZNSd
import Derived.OwnWalk
import Derived.Deep.DeepCutAuto
import Derived.Deep.CutBlock
import Derived.Laws.MakeOwn
import Derived.Test.YtlblkajnmdhmdaaGreatDoorZNFd
import Derived.Lib.AppendIntMem
import Derived.Lib.UnsafeStr
import Derived.Lib.BufferWrite
import Derived.Laws.IdiomStrings
import Derived.Handy
namespace Go.Proofs.YtlblkajnmdhmdaaGreatDoor
set_option linter.unusedVariables false
open Go.RowKit Lib
/-- The row g of 24 bytes bears the bytes l; of the world W nothing but row g has turned. -/
def St (W w : World) (B g : Nat) (l : List UInt8) : Prop := w.ownsRow B 5 1 (.slice (some ⟨g, 0, none⟩) l.length 24) l.length (byteCells l) ∧ W.grownBy w (some g)
theorem grown_drewN {a w : World} {row : Option Nat} (h : a.grownBy w row) (n : Nat) : a.grownBy (w.drewN n) row := ⟨h.os, h.tape, h.output, h.size, h.block⟩
theorem St.drewN {W w : World} {B g : Nat} {l : List UInt8} (h : St W w B g l) (n : Nat) : St W (w.drewN n) B g l := ⟨h.1, grown_drewN h.2 n⟩
end Go.Proofs.YtlblkajnmdhmdaaGreatDoor
namespace Go.Proofs.YtlblkajnmdhmdaaGreatDoor
end Go.Proofs.YtlblkajnmdhmdaaGreatDoor
namespace Go.Proofs.YtlblkajnmdhmdaaGreatDoor
end Go.Proofs.YtlblkajnmdhmdaaGreatDoor
namespace Go.Proofs.YtlblkajnmdhmdaaGreatDoor
set_option linter.unusedVariables false
open Go.RowKit Lib
/-- The tables that writing wants. -/
structure WrTabs (w : World) : Prop where
 p10 : P10 w
 t10 : T10 w
 size : 16 < w.heap.size
 opt : w.cell? ⟨4, 0, none⟩ = some (.bool true)
 tab : Lib.TabIs Tryz.prog w "internal/strconv.uint64pow10" .u64 Lib.pow10Tab
end Go.Proofs.YtlblkajnmdhmdaaGreatDoor
