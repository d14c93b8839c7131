/-
  DERIVED. GIVEN WITH THE SEED: THE CARDS: each row of YtcpknkdnboiecaaDoorRows.lean that lists a variable, with what it lists TIED to the program's text (the seventh form; the later family's looks); each row that meets fmt, with fmt's text TOLD by the authors' own Lean function (tested against real Go, not proved from fmt's source: count such statements apart). THE CARD IS WHAT COUNTS. Prove the row's statement (the work); the ties are given (YtcpknkdnboiecaaDoorTie.lean); close each card by the builder's one call (the guide's Derived/Test/ToyasCard.lean, 'card_holds'). Laid BY PROGRAM, IN A SANDBOX (cutbox-door.mjs). By AI agents, Wed Nov 11 2026. No macro, syntax, notation, axiom, sorry.
-/
import Derived.Test.YtcpknkdnboiecaaDoorRows
import GoSem.ClaimSeven
namespace Go.Proofs.YtcpknkdnboiecaaDoor
namespace Rows

/-- THE TIED CARD OF 'driftnetlaw04.QuoteQuotes'. -/
def quoteQuotesCard : Claim7 := { stood := { row := quoteQuotesRow, standIns := [], harness := (true, "3947a78ee5070115ff8be172e8d156e35b29b9474aa5f7405e95316eaaf67bf3"), looks := true }, kinds := [], alts := [], laidByText := true, laidKinds := [.data, .data, .data, .data, .sentinel, .sentinel, .mapped, .mapped, .pinned, .pinned], laidTests := true, laidLooks := .later }
def QuoteQuotesCardSaid : Prop := Claim7.holds Tryd.pinned (.plain (OpenSpec.ofChange quoteQuotesSpec)) quoteQuotesCard

/-- THE TIED CARD OF 'driftnetlaw04.QuoteTwo'. -/
def quoteTwoCard : Claim7 := { stood := { row := quoteTwoRow, standIns := [], harness := (true, "3947a78ee5070115ff8be172e8d156e35b29b9474aa5f7405e95316eaaf67bf3"), looks := true }, kinds := [], alts := [], laidByText := true, laidKinds := [.data, .data, .data, .data, .sentinel, .sentinel, .mapped, .mapped, .pinned, .pinned], laidTests := true, laidLooks := .later }
def QuoteTwoCardSaid : Prop := Claim7.holds Tryd.pinned (.plain (OpenSpec.ofChange quoteTwoSpec)) quoteTwoCard

/-- THE TIED CARD OF 'driftnetlaw04.QuoteKnown'. -/
def quoteKnownCard : Claim7 := { stood := { row := quoteKnownRow, standIns := [], harness := (true, "3947a78ee5070115ff8be172e8d156e35b29b9474aa5f7405e95316eaaf67bf3"), looks := true }, kinds := [], alts := [], laidByText := true, laidKinds := [.data, .data, .data, .data, .sentinel, .sentinel, .mapped, .mapped, .pinned, .pinned], laidTests := true, laidLooks := .later }
def QuoteKnownCardSaid : Prop := Claim7.holds Tryd.pinned (.plain (OpenSpec.ofChange quoteKnownSpec)) quoteKnownCard

/-- THE TIED CARD OF 'driftnetlaw04.QuoteWhole'. -/
def quoteWholeCard : Claim7 := { stood := { row := quoteWholeRow, standIns := [], harness := (true, "3947a78ee5070115ff8be172e8d156e35b29b9474aa5f7405e95316eaaf67bf3"), looks := true }, kinds := [], alts := [], laidByText := true, laidKinds := [.data, .data, .data, .data, .sentinel, .sentinel, .mapped, .mapped, .pinned, .pinned], laidTests := true, laidLooks := .later }
def QuoteWholeCardSaid : Prop := Claim7.holds Tryd.pinned (.plain (OpenSpec.ofChange quoteWholeSpec)) quoteWholeCard

/-- THE TIED CARD OF 'driftnetlaw04.QuoteNames'. -/
def quoteNamesCard : Claim7 := { stood := { row := quoteNamesRow, standIns := [], harness := (true, "3947a78ee5070115ff8be172e8d156e35b29b9474aa5f7405e95316eaaf67bf3"), looks := true }, kinds := [], alts := [], laidByText := true, laidKinds := [.data, .data, .data, .data, .sentinel, .sentinel, .mapped, .mapped, .pinned, .pinned], laidTests := true, laidLooks := .later }
def QuoteNamesCardSaid : Prop := Claim7.holds Tryd.pinned (.plain (OpenSpec.ofChange quoteNamesSpec)) quoteNamesCard

/-- THE TIED CARD OF 'driftnetlaw04.QuoteBack'. -/
def quoteBackCard : Claim7 := { stood := { row := quoteBackRow, standIns := [], harness := (true, "3947a78ee5070115ff8be172e8d156e35b29b9474aa5f7405e95316eaaf67bf3"), looks := true }, kinds := [], alts := [], laidByText := true, laidKinds := [.data, .data, .data, .data, .sentinel, .sentinel, .mapped, .mapped, .pinned, .pinned], laidTests := true, laidLooks := .later }
def QuoteBackCardSaid : Prop := Claim7.holds Tryd.pinned (.plain (OpenSpec.ofChange quoteBackSpec)) quoteBackCard

/-- THE SECOND FORM's CARD OF 'driftnetlaw04.QuoteQuotes'. -/
def quoteQuotesUptoCard : Claim7 := { stood := { row := quoteQuotesUptoRow, standIns := [], harness := (true, "3947a78ee5070115ff8be172e8d156e35b29b9474aa5f7405e95316eaaf67bf3"), looks := true }, kinds := [], alts := [], laidByText := true, laidKinds := [.data, .data, .data, .data, .sentinel, .sentinel, .mapped, .mapped, .pinned, .pinned], laidTests := true, laidLooks := .later }
def QuoteQuotesUptoCardSaid : Prop := Claim7.holds Tryd.pinned (.plain (OpenSpec.upto quoteQuotesSpec)) quoteQuotesUptoCard

/-- THE SECOND FORM's CARD OF 'driftnetlaw04.QuoteTwo'. -/
def quoteTwoUptoCard : Claim7 := { stood := { row := quoteTwoUptoRow, standIns := [], harness := (true, "3947a78ee5070115ff8be172e8d156e35b29b9474aa5f7405e95316eaaf67bf3"), looks := true }, kinds := [], alts := [], laidByText := true, laidKinds := [.data, .data, .data, .data, .sentinel, .sentinel, .mapped, .mapped, .pinned, .pinned], laidTests := true, laidLooks := .later }
def QuoteTwoUptoCardSaid : Prop := Claim7.holds Tryd.pinned (.plain (OpenSpec.upto quoteTwoSpec)) quoteTwoUptoCard

/-- THE SECOND FORM's CARD OF 'driftnetlaw04.QuoteKnown'. -/
def quoteKnownUptoCard : Claim7 := { stood := { row := quoteKnownUptoRow, standIns := [], harness := (true, "3947a78ee5070115ff8be172e8d156e35b29b9474aa5f7405e95316eaaf67bf3"), looks := true }, kinds := [], alts := [], laidByText := true, laidKinds := [.data, .data, .data, .data, .sentinel, .sentinel, .mapped, .mapped, .pinned, .pinned], laidTests := true, laidLooks := .later }
def QuoteKnownUptoCardSaid : Prop := Claim7.holds Tryd.pinned (.plain (OpenSpec.upto quoteKnownSpec)) quoteKnownUptoCard

/-- THE SECOND FORM's CARD OF 'driftnetlaw04.QuoteWhole'. -/
def quoteWholeUptoCard : Claim7 := { stood := { row := quoteWholeUptoRow, standIns := [], harness := (true, "3947a78ee5070115ff8be172e8d156e35b29b9474aa5f7405e95316eaaf67bf3"), looks := true }, kinds := [], alts := [], laidByText := true, laidKinds := [.data, .data, .data, .data, .sentinel, .sentinel, .mapped, .mapped, .pinned, .pinned], laidTests := true, laidLooks := .later }
def QuoteWholeUptoCardSaid : Prop := Claim7.holds Tryd.pinned (.plain (OpenSpec.upto quoteWholeSpec)) quoteWholeUptoCard

/-- THE SECOND FORM's CARD OF 'driftnetlaw04.QuoteNames'. -/
def quoteNamesUptoCard : Claim7 := { stood := { row := quoteNamesUptoRow, standIns := [], harness := (true, "3947a78ee5070115ff8be172e8d156e35b29b9474aa5f7405e95316eaaf67bf3"), looks := true }, kinds := [], alts := [], laidByText := true, laidKinds := [.data, .data, .data, .data, .sentinel, .sentinel, .mapped, .mapped, .pinned, .pinned], laidTests := true, laidLooks := .later }
def QuoteNamesUptoCardSaid : Prop := Claim7.holds Tryd.pinned (.plain (OpenSpec.upto quoteNamesSpec)) quoteNamesUptoCard

/-- THE SECOND FORM's CARD OF 'driftnetlaw04.QuoteBack'. -/
def quoteBackUptoCard : Claim7 := { stood := { row := quoteBackUptoRow, standIns := [], harness := (true, "3947a78ee5070115ff8be172e8d156e35b29b9474aa5f7405e95316eaaf67bf3"), looks := true }, kinds := [], alts := [], laidByText := true, laidKinds := [.data, .data, .data, .data, .sentinel, .sentinel, .mapped, .mapped, .pinned, .pinned], laidTests := true, laidLooks := .later }
def QuoteBackUptoCardSaid : Prop := Claim7.holds Tryd.pinned (.plain (OpenSpec.upto quoteBackSpec)) quoteBackUptoCard
end Rows
end Go.Proofs.YtcpknkdnboiecaaDoor
