/-
  Walk: the library's setDigits: the digits of a number into a row, and how many are left when the zeros at the end go.
-/
import Derived.Test.YtlblkajnmdhmdaaGreatDoorZNFw
import Derived.Lib.Itoa
import Derived.Sort.Row
namespace Go.Proofs.YtlblkajnmdhmdaaGreatDoor
end Go.Proofs.YtlblkajnmdhmdaaGreatDoor
