/-
  DERIVED. GIVEN WITH THE SEED: THE CARDS: each row of YtlblkajnmdhmdaaGreatDoorRows.lean that lists a variable, with what it lists TIED to the program's text (the seventh form; the later family's looks); each row that meets fmt, with fmt's text TOLD by the authors' own Lean function (tested against real Go, not proved from fmt's source: count such statements apart). THE CARD IS WHAT COUNTS. Prove the row's statement (the work); the ties are given (YtlblkajnmdhmdaaGreatDoorTie.lean); close each card by the builder's one call (the guide's Derived/Test/ToyasCard.lean, 'card_holds'). Laid BY PROGRAM, IN A SANDBOX (cutbox-door.mjs). By AI agents, Wed Nov 11 2026. No macro, syntax, notation, axiom, sorry.
-/
import Derived.Test.YtlblkajnmdhmdaaGreatDoorRows
import GoSem.ClaimSeven
namespace Go.Proofs.YtlblkajnmdhmdaaGreatDoor
namespace Rows

/-- THE TIED CARD OF 'laws.FnExactParseNumber'. -/
def fnExactParseNumberCard : Claim7 := { stood := { row := fnExactParseNumberRow, standIns := [], harness := (true, "dbc36fdaface6e7ac090ee8d493cddd28a18ba0b2813ec0eb0d8d76eee23e35c"), looks := true }, kinds := [], alts := [], laidByText := true, laidKinds := [.data, .data, .widerDeep, .widerDeep, .data, .data, .data, .data, .data, .sentinel, .sentinel, .pinned, .pinned], laidTests := true, laidLooks := .later }
def FnExactParseNumberCardSaid : Prop := Claim7.holds Tryz.pinned (.plain (OpenSpec.ofChange fnExactParseNumberSpec)) fnExactParseNumberCard

/-- THE TIED CARD OF 'laws.FnExactToInteger'. -/
def fnExactToIntegerCard : Claim7 := { stood := { row := fnExactToIntegerRow, standIns := [], harness := (true, "dbc36fdaface6e7ac090ee8d493cddd28a18ba0b2813ec0eb0d8d76eee23e35c"), looks := true }, kinds := [], alts := [], laidByText := true, laidKinds := [.data, .data, .widerDeep, .widerDeep, .data, .data, .data, .data, .data, .data, .sentinel, .sentinel, .pinned, .pinned, .pinned], laidTests := true, laidLooks := .later }
def FnExactToIntegerCardSaid : Prop := Claim7.holds Tryz.pinned (.plain (OpenSpec.ofChange fnExactToIntegerSpec)) fnExactToIntegerCard

/-- THE TIED CARD OF 'laws.FnExactFormatNumber'. -/
def fnExactFormatNumberCard : Claim7 := { stood := { row := fnExactFormatNumberRow, standIns := [], harness := (true, "dbc36fdaface6e7ac090ee8d493cddd28a18ba0b2813ec0eb0d8d76eee23e35c"), looks := true }, kinds := [], alts := [], laidByText := true, laidKinds := [.data, .data, .widerDeep, .widerDeep, .data, .data, .data, .data, .data, .data, .sentinel, .sentinel, .pinned, .pinned, .pinned], laidTests := true, laidLooks := .later }
def FnExactFormatNumberCardSaid : Prop := Claim7.holds Tryz.pinned (.plain (OpenSpec.ofChange fnExactFormatNumberSpec)) fnExactFormatNumberCard

/-- THE TIED CARD OF 'laws.FnFloatText'. -/
def fnFloatTextCard : Claim7 := { stood := { row := fnFloatTextRow, standIns := [], harness := (true, "dbc36fdaface6e7ac090ee8d493cddd28a18ba0b2813ec0eb0d8d76eee23e35c"), looks := true }, kinds := [], alts := [], laidByText := true, laidKinds := [.data, .data, .widerDeep, .widerDeep, .data, .data, .data, .data, .data, .data, .sentinel, .sentinel, .pinned, .pinned, .pinned], laidTests := true, laidLooks := .later }
def FnFloatTextCardSaid : Prop := Claim7.holds Tryz.pinned (.plain (OpenSpec.ofChange fnFloatTextSpec)) fnFloatTextCard

/-- THE SECOND FORM's CARD OF 'laws.FnExactParseNumber'. -/
def fnExactParseNumberUptoCard : Claim7 := { stood := { row := fnExactParseNumberUptoRow, standIns := [], harness := (true, "dbc36fdaface6e7ac090ee8d493cddd28a18ba0b2813ec0eb0d8d76eee23e35c"), looks := true }, kinds := [], alts := [], laidByText := true, laidKinds := [.data, .data, .widerDeep, .widerDeep, .data, .data, .data, .data, .data, .sentinel, .sentinel, .pinned, .pinned], laidTests := true, laidLooks := .later }
def FnExactParseNumberUptoCardSaid : Prop := Claim7.holds Tryz.pinned (.plain (OpenSpec.upto fnExactParseNumberSpec)) fnExactParseNumberUptoCard

/-- THE SECOND FORM's CARD OF 'laws.FnExactToInteger'. -/
def fnExactToIntegerUptoCard : Claim7 := { stood := { row := fnExactToIntegerUptoRow, standIns := [], harness := (true, "dbc36fdaface6e7ac090ee8d493cddd28a18ba0b2813ec0eb0d8d76eee23e35c"), looks := true }, kinds := [], alts := [], laidByText := true, laidKinds := [.data, .data, .widerDeep, .widerDeep, .data, .data, .data, .data, .data, .data, .sentinel, .sentinel, .pinned, .pinned, .pinned], laidTests := true, laidLooks := .later }
def FnExactToIntegerUptoCardSaid : Prop := Claim7.holds Tryz.pinned (.plain (OpenSpec.upto fnExactToIntegerSpec)) fnExactToIntegerUptoCard

/-- THE SECOND FORM's CARD OF 'laws.FnExactFormatNumber'. -/
def fnExactFormatNumberUptoCard : Claim7 := { stood := { row := fnExactFormatNumberUptoRow, standIns := [], harness := (true, "dbc36fdaface6e7ac090ee8d493cddd28a18ba0b2813ec0eb0d8d76eee23e35c"), looks := true }, kinds := [], alts := [], laidByText := true, laidKinds := [.data, .data, .widerDeep, .widerDeep, .data, .data, .data, .data, .data, .data, .sentinel, .sentinel, .pinned, .pinned, .pinned], laidTests := true, laidLooks := .later }
def FnExactFormatNumberUptoCardSaid : Prop := Claim7.holds Tryz.pinned (.plain (OpenSpec.upto fnExactFormatNumberSpec)) fnExactFormatNumberUptoCard

/-- THE SECOND FORM's CARD OF 'laws.FnFloatText'. -/
def fnFloatTextUptoCard : Claim7 := { stood := { row := fnFloatTextUptoRow, standIns := [], harness := (true, "dbc36fdaface6e7ac090ee8d493cddd28a18ba0b2813ec0eb0d8d76eee23e35c"), looks := true }, kinds := [], alts := [], laidByText := true, laidKinds := [.data, .data, .widerDeep, .widerDeep, .data, .data, .data, .data, .data, .data, .sentinel, .sentinel, .pinned, .pinned, .pinned], laidTests := true, laidLooks := .later }
def FnFloatTextUptoCardSaid : Prop := Claim7.holds Tryz.pinned (.plain (OpenSpec.upto fnFloatTextSpec)) fnFloatTextUptoCard
end Rows
end Go.Proofs.YtlblkajnmdhmdaaGreatDoor
