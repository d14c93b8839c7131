/- QuoteKnown: its pure statement is closed. Its tied card. -/
import Derived.Test.YtcpknkdnboiecaaDoorLawQuoteKnown
namespace Go.Proofs.YtcpknkdnboiecaaDoor
open Go
theorem quoteKnown_pure : P.driftnetlaw04_QuoteKnown.Pure := ⟨60, by decide +kernel⟩
theorem quoteKnown_card : Rows.QuoteKnownCardSaid := quoteKnown.card_of quoteKnown_pure
#print axioms quoteKnown_card
end Go.Proofs.YtcpknkdnboiecaaDoor
