/-
  Walk (printed by the kit's print for this claim, one step mended): l01Round of the reference.
  Walk (printed by the kit's print for this claim, one step mended): l01Short of the reference.
  Walk (printed by the kit's print for this claim, one step mended): l01Zeros and l01FloatText of the reference.
  Walk (printed by the kit's print for this claim, one step mended): L01Text and FormatNumber of the reference.
-/
import Derived.Test.YtlblkajnmdhmdaaGreatDoorZPFormatNumberx2
import Derived.Test.YtlblkajnmdhmdaaGreatDoorZPFormatNumberx5
namespace Go.Proofs.YtlblkajnmdhmdaaGreatDoor.PFormatNumber
end Go.Proofs.YtlblkajnmdhmdaaGreatDoor.PFormatNumber
namespace Go.Proofs.YtlblkajnmdhmdaaGreatDoor.PFormatNumber
end Go.Proofs.YtlblkajnmdhmdaaGreatDoor.PFormatNumber
namespace Go.Proofs.YtlblkajnmdhmdaaGreatDoor.PFormatNumber
end Go.Proofs.YtlblkajnmdhmdaaGreatDoor.PFormatNumber
namespace Go.Proofs.YtlblkajnmdhmdaaGreatDoor.PFormatNumber
end Go.Proofs.YtlblkajnmdhmdaaGreatDoor.PFormatNumber
