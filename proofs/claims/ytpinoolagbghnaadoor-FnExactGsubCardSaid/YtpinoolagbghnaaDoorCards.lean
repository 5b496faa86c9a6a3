/-
  DERIVED. GIVEN WITH THE SEED: THE CARDS: each row of YtpinoolagbghnaaDoorRows.lean that lists a variable, with what it lists TIED to the program's text (the seventh form; the later family's looks); each row that meets fmt, with fmt's text TOLD by the authors' own Lean function (tested against real Go, not proved from fmt's source: count such statements apart). THE CARD IS WHAT COUNTS. Prove the row's statement (the work); the ties are given (YtpinoolagbghnaaDoorTie.lean); close each card by the builder's one call (the guide's Derived/Test/ToyasCard.lean, 'card_holds'). Laid BY PROGRAM, IN A SANDBOX (cutbox-door.mjs). By AI agents, Wed Nov 11 2026. No macro, syntax, notation, axiom, sorry.
-/
import Derived.Test.YtpinoolagbghnaaDoorRows
import GoSem.ClaimSeven
namespace Go.Proofs.YtpinoolagbghnaaDoor
namespace Rows

/-- THE TIED CARD OF 'laws.FnExactGsub'. -/
def fnExactGsubCard : Claim7 := { stood := { row := fnExactGsubRow, standIns := [], harness := (true, "33550f0237e351a558f2f2bb3c70d445ed65fc0a6f1cda1999a7d2bfce51e3f2"), looks := true }, kinds := [], alts := [], laidByText := true, laidKinds := [.data, .data, .data], laidTests := true, laidLooks := .later }
def FnExactGsubCardSaid : Prop := Claim7.holds Tryd.pinned (.plain (OpenSpec.ofChange fnExactGsubSpec)) fnExactGsubCard

/-- THE SECOND FORM's CARD OF 'laws.FnExactGsub'. -/
def fnExactGsubUptoCard : Claim7 := { stood := { row := fnExactGsubUptoRow, standIns := [], harness := (true, "33550f0237e351a558f2f2bb3c70d445ed65fc0a6f1cda1999a7d2bfce51e3f2"), looks := true }, kinds := [], alts := [], laidByText := true, laidKinds := [.data, .data, .data], laidTests := true, laidLooks := .later }
def FnExactGsubUptoCardSaid : Prop := Claim7.holds Tryd.pinned (.plain (OpenSpec.upto fnExactGsubSpec)) fnExactGsubUptoCard
end Rows
end Go.Proofs.YtpinoolagbghnaaDoor
