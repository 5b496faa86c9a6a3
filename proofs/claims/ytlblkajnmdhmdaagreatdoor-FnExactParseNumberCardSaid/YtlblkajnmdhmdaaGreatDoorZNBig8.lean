/-
  Plain law over the printed functions: l01Exact writes the decimal digits of a word's value.
  Plain law over the printed functions: l01Round rounds half to even.
  Plain law over the printed functions: l01Short finds the fewest digits that read back.
  Plain law over the printed functions: the text that the reference's FormatNumber writes.
-/
import Derived.Test.YtlblkajnmdhmdaaGreatDoorZNBig4
import Derived.Test.YtlblkajnmdhmdaaGreatDoorZSText
namespace Go.Proofs.YtlblkajnmdhmdaaGreatDoor.NB
end Go.Proofs.YtlblkajnmdhmdaaGreatDoor.NB

namespace Go.Proofs.YtlblkajnmdhmdaaGreatDoor.NB
end Go.Proofs.YtlblkajnmdhmdaaGreatDoor.NB

namespace Go.Proofs.YtlblkajnmdhmdaaGreatDoor.NB
end Go.Proofs.YtlblkajnmdhmdaaGreatDoor.NB

namespace Go.Proofs.YtlblkajnmdhmdaaGreatDoor.NB
end Go.Proofs.YtlblkajnmdhmdaaGreatDoor.NB
