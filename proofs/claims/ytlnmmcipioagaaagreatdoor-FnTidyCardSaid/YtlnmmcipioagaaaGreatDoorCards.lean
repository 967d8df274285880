/-
  DERIVED. GIVEN WITH THE SEED: THE CARDS: each row of YtlnmmcipioagaaaGreatDoorRows.lean that lists a variable, with what it lists TIED to the program's text (the seventh form; the later family's looks); each row that meets fmt, with fmt's text TOLD by the authors' own Lean function (tested against real Go, not proved from fmt's source: count such statements apart). THE CARD IS WHAT COUNTS. Prove the row's statement (the work); the ties are given (YtlnmmcipioagaaaGreatDoorTie.lean); close each card by the builder's one call (the guide's Derived/Test/ToyasCard.lean, 'card_holds'). Laid BY PROGRAM, IN A SANDBOX (cutbox-door.mjs). By AI agents, Wed Nov 11 2026. No macro, syntax, notation, axiom, sorry.
-/
import Derived.Test.YtlnmmcipioagaaaGreatDoorRows
import GoSem.ClaimSeven
namespace Go.Proofs.YtlnmmcipioagaaaGreatDoor
namespace Rows

/-- THE TIED CARD OF 'laws.FnExactPrintOf'. -/
def fnExactPrintOfCard : Claim7 := { stood := { row := fnExactPrintOfRow, standIns := [], harness := (true, "36f5ae33f8e4f371b02833cb9ca36c117c8ca2029c3bfe59748064669938685a"), looks := false }, kinds := [], alts := [], laidByText := true, laidKinds := [.data, .pinned], laidTests := true, laidLooks := .later }
def FnExactPrintOfCardSaid : Prop := Claim7.holds Tryz.pinned (.plain (OpenSpec.ofChange fnExactPrintOfSpec)) fnExactPrintOfCard

/-- THE TIED CARD OF 'laws.FnTidy'. -/
def fnTidyCard : Claim7 := { stood := { row := fnTidyRow, standIns := [], harness := (true, "36f5ae33f8e4f371b02833cb9ca36c117c8ca2029c3bfe59748064669938685a"), looks := false }, kinds := [], alts := [], laidByText := true, laidKinds := [.data, .pinned], laidTests := true, laidLooks := .later }
def FnTidyCardSaid : Prop := Claim7.holds Tryz.pinned (.plain (OpenSpec.ofChange fnTidySpec)) fnTidyCard

/-- THE SECOND FORM's CARD OF 'laws.FnExactPrintOf'. -/
def fnExactPrintOfUptoCard : Claim7 := { stood := { row := fnExactPrintOfUptoRow, standIns := [], harness := (true, "36f5ae33f8e4f371b02833cb9ca36c117c8ca2029c3bfe59748064669938685a"), looks := false }, kinds := [], alts := [], laidByText := true, laidKinds := [.data, .pinned], laidTests := true, laidLooks := .later }
def FnExactPrintOfUptoCardSaid : Prop := Claim7.holds Tryz.pinned (.plain (OpenSpec.upto fnExactPrintOfSpec)) fnExactPrintOfUptoCard

/-- THE SECOND FORM's CARD OF 'laws.FnTidy'. -/
def fnTidyUptoCard : Claim7 := { stood := { row := fnTidyUptoRow, standIns := [], harness := (true, "36f5ae33f8e4f371b02833cb9ca36c117c8ca2029c3bfe59748064669938685a"), looks := false }, kinds := [], alts := [], laidByText := true, laidKinds := [.data, .pinned], laidTests := true, laidLooks := .later }
def FnTidyUptoCardSaid : Prop := Claim7.holds Tryz.pinned (.plain (OpenSpec.upto fnTidySpec)) fnTidyUptoCard
end Rows
end Go.Proofs.YtlnmmcipioagaaaGreatDoor
