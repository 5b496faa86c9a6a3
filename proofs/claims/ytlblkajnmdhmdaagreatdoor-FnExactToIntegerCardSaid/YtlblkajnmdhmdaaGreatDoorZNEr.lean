/-
  Plain: the text that FormatFloat writes is a numeral that reads as the digits' number.
-/
import Derived.Test.YtlblkajnmdhmdaaGreatDoorZNPr
import Derived.Test.YtlblkajnmdhmdaaGreatDoorZNFy
namespace Go.Proofs.YtlblkajnmdhmdaaGreatDoor
set_option linter.unusedVariables false
open Go.RowKit Lib NR Go.Sort
def valS (m : Nat) (l : List UInt8) : Nat := l.foldl (fun m b => m * 10 + (b.toNat - 48)) m
end Go.Proofs.YtlblkajnmdhmdaaGreatDoor
