/-
  DERIVED. GIVEN WITH THE SEED: THE CARDS: each row of YtnmofpefofkoeaaGreatDoorRows.lean that lists a variable, with what it lists TIED to the program's text (the seventh form; the later family's looks); each row that meets fmt, with fmt's text TOLD by the authors' own Lean function (tested against real Go, not proved from fmt's source: count such statements apart). THE CARD IS WHAT COUNTS. Prove the row's statement (the work); the ties are given (YtnmofpefofkoeaaGreatDoorTie.lean); close each card by the builder's one call (the guide's Derived/Test/ToyasCard.lean, 'card_holds'). Laid BY PROGRAM, IN A SANDBOX (cutbox-door.mjs). By AI agents, Wed Nov 11 2026. No macro, syntax, notation, axiom, sorry.
-/
import Derived.Test.YtnmofpefofkoeaaGreatDoorRows
import GoSem.ClaimSeven
namespace Go.Proofs.YtnmofpefofkoeaaGreatDoor
namespace Rows

/-- THE TIED CARD OF 'driftnetlaw16.LogfmtParses'. -/
def logfmtParsesCard : Claim7 := { stood := { row := logfmtParsesRow, standIns := [], harness := (true, "da05a6c92dcfc4f1e4d2da44b508544a1c71d1105c38b5ea2888ad9c8d30e85f"), looks := true }, kinds := [], alts := [], laidByText := true, laidKinds := [.data, .data, .data, .data, .sentinel, .sentinel, .mapped, .mapped, .pinned, .pinned], laidTests := true, laidLooks := .later }
def LogfmtParsesCardSaid : Prop := Claim7.holds Tryz.pinned (.plain (OpenSpec.ofChange logfmtParsesSpec)) logfmtParsesCard

/-- THE TIED CARD OF 'driftnetlaw16.LogfmtPlain'. -/
def logfmtPlainCard : Claim7 := { stood := { row := logfmtPlainRow, standIns := [], harness := (true, "da05a6c92dcfc4f1e4d2da44b508544a1c71d1105c38b5ea2888ad9c8d30e85f"), looks := true }, kinds := [], alts := [], laidByText := true, laidKinds := [.data, .data, .data, .data, .sentinel, .sentinel, .mapped, .mapped, .pinned, .pinned], laidTests := true, laidLooks := .later }
def LogfmtPlainCardSaid : Prop := Claim7.holds Tryz.pinned (.plain (OpenSpec.ofChange logfmtPlainSpec)) logfmtPlainCard

/-- THE TIED CARD OF 'driftnetlaw16.LogfmtKnown'. -/
def logfmtKnownCard : Claim7 := { stood := { row := logfmtKnownRow, standIns := [], harness := (true, "da05a6c92dcfc4f1e4d2da44b508544a1c71d1105c38b5ea2888ad9c8d30e85f"), looks := true }, kinds := [], alts := [], laidByText := true, laidKinds := [.data, .data, .data, .data, .sentinel, .sentinel, .mapped, .mapped, .pinned, .pinned], laidTests := true, laidLooks := .later }
def LogfmtKnownCardSaid : Prop := Claim7.holds Tryz.pinned (.plain (OpenSpec.ofChange logfmtKnownSpec)) logfmtKnownCard

/-- THE TIED CARD OF 'driftnetlaw16.LogfmtTwo'. -/
def logfmtTwoCard : Claim7 := { stood := { row := logfmtTwoRow, standIns := [], harness := (true, "da05a6c92dcfc4f1e4d2da44b508544a1c71d1105c38b5ea2888ad9c8d30e85f"), looks := true }, kinds := [], alts := [], laidByText := true, laidKinds := [.data, .data, .data, .data, .sentinel, .sentinel, .mapped, .mapped, .pinned, .pinned], laidTests := true, laidLooks := .later }
def LogfmtTwoCardSaid : Prop := Claim7.holds Tryz.pinned (.plain (OpenSpec.ofChange logfmtTwoSpec)) logfmtTwoCard

/-- THE TIED CARD OF 'driftnetlaw16.LogfmtBack'. -/
def logfmtBackCard : Claim7 := { stood := { row := logfmtBackRow, standIns := [], harness := (true, "da05a6c92dcfc4f1e4d2da44b508544a1c71d1105c38b5ea2888ad9c8d30e85f"), looks := true }, kinds := [], alts := [], laidByText := true, laidKinds := [.data, .data, .data, .data, .sentinel, .sentinel, .mapped, .mapped, .pinned, .pinned], laidTests := true, laidLooks := .later }
def LogfmtBackCardSaid : Prop := Claim7.holds Tryz.pinned (.plain (OpenSpec.ofChange logfmtBackSpec)) logfmtBackCard

/-- THE SECOND FORM's CARD OF 'driftnetlaw16.LogfmtParses'. -/
def logfmtParsesUptoCard : Claim7 := { stood := { row := logfmtParsesUptoRow, standIns := [], harness := (true, "da05a6c92dcfc4f1e4d2da44b508544a1c71d1105c38b5ea2888ad9c8d30e85f"), looks := true }, kinds := [], alts := [], laidByText := true, laidKinds := [.data, .data, .data, .data, .sentinel, .sentinel, .mapped, .mapped, .pinned, .pinned], laidTests := true, laidLooks := .later }
def LogfmtParsesUptoCardSaid : Prop := Claim7.holds Tryz.pinned (.plain (OpenSpec.upto logfmtParsesSpec)) logfmtParsesUptoCard

/-- THE SECOND FORM's CARD OF 'driftnetlaw16.LogfmtPlain'. -/
def logfmtPlainUptoCard : Claim7 := { stood := { row := logfmtPlainUptoRow, standIns := [], harness := (true, "da05a6c92dcfc4f1e4d2da44b508544a1c71d1105c38b5ea2888ad9c8d30e85f"), looks := true }, kinds := [], alts := [], laidByText := true, laidKinds := [.data, .data, .data, .data, .sentinel, .sentinel, .mapped, .mapped, .pinned, .pinned], laidTests := true, laidLooks := .later }
def LogfmtPlainUptoCardSaid : Prop := Claim7.holds Tryz.pinned (.plain (OpenSpec.upto logfmtPlainSpec)) logfmtPlainUptoCard

/-- THE SECOND FORM's CARD OF 'driftnetlaw16.LogfmtKnown'. -/
def logfmtKnownUptoCard : Claim7 := { stood := { row := logfmtKnownUptoRow, standIns := [], harness := (true, "da05a6c92dcfc4f1e4d2da44b508544a1c71d1105c38b5ea2888ad9c8d30e85f"), looks := true }, kinds := [], alts := [], laidByText := true, laidKinds := [.data, .data, .data, .data, .sentinel, .sentinel, .mapped, .mapped, .pinned, .pinned], laidTests := true, laidLooks := .later }
def LogfmtKnownUptoCardSaid : Prop := Claim7.holds Tryz.pinned (.plain (OpenSpec.upto logfmtKnownSpec)) logfmtKnownUptoCard

/-- THE SECOND FORM's CARD OF 'driftnetlaw16.LogfmtTwo'. -/
def logfmtTwoUptoCard : Claim7 := { stood := { row := logfmtTwoUptoRow, standIns := [], harness := (true, "da05a6c92dcfc4f1e4d2da44b508544a1c71d1105c38b5ea2888ad9c8d30e85f"), looks := true }, kinds := [], alts := [], laidByText := true, laidKinds := [.data, .data, .data, .data, .sentinel, .sentinel, .mapped, .mapped, .pinned, .pinned], laidTests := true, laidLooks := .later }
def LogfmtTwoUptoCardSaid : Prop := Claim7.holds Tryz.pinned (.plain (OpenSpec.upto logfmtTwoSpec)) logfmtTwoUptoCard

/-- THE SECOND FORM's CARD OF 'driftnetlaw16.LogfmtBack'. -/
def logfmtBackUptoCard : Claim7 := { stood := { row := logfmtBackUptoRow, standIns := [], harness := (true, "da05a6c92dcfc4f1e4d2da44b508544a1c71d1105c38b5ea2888ad9c8d30e85f"), looks := true }, kinds := [], alts := [], laidByText := true, laidKinds := [.data, .data, .data, .data, .sentinel, .sentinel, .mapped, .mapped, .pinned, .pinned], laidTests := true, laidLooks := .later }
def LogfmtBackUptoCardSaid : Prop := Claim7.holds Tryz.pinned (.plain (OpenSpec.upto logfmtBackSpec)) logfmtBackUptoCard
end Rows
end Go.Proofs.YtnmofpefofkoeaaGreatDoor
