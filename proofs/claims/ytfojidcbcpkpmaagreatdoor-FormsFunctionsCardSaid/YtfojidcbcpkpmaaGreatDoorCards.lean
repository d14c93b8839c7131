/-
  DERIVED. GIVEN WITH THE SEED: THE CARDS: each row of YtfojidcbcpkpmaaGreatDoorRows.lean that lists a variable, with what it lists TIED to the program's text (the seventh form; the later family's looks); each row that meets fmt, with fmt's text TOLD by the authors' own Lean function (tested against real Go, not proved from fmt's source: count such statements apart). THE CARD IS WHAT COUNTS. Prove the row's statement (the work); the ties are given (YtfojidcbcpkpmaaGreatDoorTie.lean); close each card by the builder's one call (the guide's Derived/Test/ToyasCard.lean, 'card_holds'). Laid BY PROGRAM, IN A SANDBOX (cutbox-door.mjs). By AI agents, Wed Nov 11 2026. No macro, syntax, notation, axiom, sorry.
-/
import Derived.Test.YtfojidcbcpkpmaaGreatDoorRows
import GoSem.ClaimSeven
namespace Go.Proofs.YtfojidcbcpkpmaaGreatDoor
namespace Rows

/-- THE TIED CARD OF 'driftnetlaw19.FormsFunctions'. -/
def formsFunctionsCard : Claim7 := { stood := { row := formsFunctionsRow, standIns := [], harness := (true, "dfdc94aa009d261d8d6e2727d2ed780ade07d440c9f35f5e106f14662c4b2882"), looks := true }, kinds := [], alts := [], laidByText := true, laidKinds := [.data, .data, .data, .data, .sentinel, .sentinel, .mapped, .mapped, .funcs, .pinned, .pinned], laidTests := true, laidLooks := .later }
def FormsFunctionsCardSaid : Prop := Claim7.holds Tryz.pinned (.plain (OpenSpec.ofChange formsFunctionsSpec)) formsFunctionsCard

/-- THE SECOND FORM's CARD OF 'driftnetlaw19.FormsFunctions'. -/
def formsFunctionsUptoCard : Claim7 := { stood := { row := formsFunctionsUptoRow, standIns := [], harness := (true, "dfdc94aa009d261d8d6e2727d2ed780ade07d440c9f35f5e106f14662c4b2882"), looks := true }, kinds := [], alts := [], laidByText := true, laidKinds := [.data, .data, .data, .data, .sentinel, .sentinel, .mapped, .mapped, .funcs, .pinned, .pinned], laidTests := true, laidLooks := .later }
def FormsFunctionsUptoCardSaid : Prop := Claim7.holds Tryz.pinned (.plain (OpenSpec.upto formsFunctionsSpec)) formsFunctionsUptoCard
end Rows
end Go.Proofs.YtfojidcbcpkpmaaGreatDoor
