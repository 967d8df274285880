/-
  DERIVED. GIVEN WITH THE SEED: THE CARDS: each row of YtlnmmcipioagaaaDoorRows.lean that lists a variable, with what it lists TIED to the program's text (the seventh form; the later family's looks); each row that meets fmt, with fmt's text TOLD by the authors' own Lean function (tested against real Go, not proved from fmt's source: count such statements apart). THE CARD IS WHAT COUNTS. Prove the row's statement (the work); the ties are given (YtlnmmcipioagaaaDoorTie.lean); close each card by the builder's one call (the guide's Derived/Test/ToyasCard.lean, 'card_holds'). Laid BY PROGRAM, IN A SANDBOX (cutbox-door.mjs). By AI agents, Wed Nov 11 2026. No macro, syntax, notation, axiom, sorry.
-/
import Derived.Test.YtlnmmcipioagaaaDoorRows
import GoSem.ClaimSeven
namespace Go.Proofs.YtlnmmcipioagaaaDoor
namespace Rows

/-- THE TIED CARD OF 'laws.FnExactEscape'. -/
def fnExactEscapeCard : Claim7 := { stood := { row := fnExactEscapeRow, standIns := [], harness := (true, "9d7ad1308fafce11c8335c2fbbbe8032f2faab15a150703dd066aeb24fc423da"), looks := false }, kinds := [], alts := [], laidByText := true, laidKinds := [.data, .pinned], laidTests := true, laidLooks := .later }
def FnExactEscapeCardSaid : Prop := Claim7.holds Tryd.pinned (.plain (OpenSpec.ofChange fnExactEscapeSpec)) fnExactEscapeCard

/-- THE TIED CARD OF 'laws.FnEscape'. -/
def fnEscapeCard : Claim7 := { stood := { row := fnEscapeRow, standIns := [], harness := (true, "9d7ad1308fafce11c8335c2fbbbe8032f2faab15a150703dd066aeb24fc423da"), looks := false }, kinds := [], alts := [], laidByText := true, laidKinds := [.data, .pinned], laidTests := true, laidLooks := .later }
def FnEscapeCardSaid : Prop := Claim7.holds Tryd.pinned (.plain (OpenSpec.ofChange fnEscapeSpec)) fnEscapeCard

/-- THE SECOND FORM's CARD OF 'laws.FnExactEscape'. -/
def fnExactEscapeUptoCard : Claim7 := { stood := { row := fnExactEscapeUptoRow, standIns := [], harness := (true, "9d7ad1308fafce11c8335c2fbbbe8032f2faab15a150703dd066aeb24fc423da"), looks := false }, kinds := [], alts := [], laidByText := true, laidKinds := [.data, .pinned], laidTests := true, laidLooks := .later }
def FnExactEscapeUptoCardSaid : Prop := Claim7.holds Tryd.pinned (.plain (OpenSpec.upto fnExactEscapeSpec)) fnExactEscapeUptoCard

/-- THE SECOND FORM's CARD OF 'laws.FnEscape'. -/
def fnEscapeUptoCard : Claim7 := { stood := { row := fnEscapeUptoRow, standIns := [], harness := (true, "9d7ad1308fafce11c8335c2fbbbe8032f2faab15a150703dd066aeb24fc423da"), looks := false }, kinds := [], alts := [], laidByText := true, laidKinds := [.data, .pinned], laidTests := true, laidLooks := .later }
def FnEscapeUptoCardSaid : Prop := Claim7.holds Tryd.pinned (.plain (OpenSpec.upto fnEscapeSpec)) fnEscapeUptoCard
end Rows
end Go.Proofs.YtlnmmcipioagaaaDoor
