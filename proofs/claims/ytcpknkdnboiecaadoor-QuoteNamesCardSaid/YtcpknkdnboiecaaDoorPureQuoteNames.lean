/- QuoteNames: its tied card. -/
import Derived.Test.YtcpknkdnboiecaaDoorLawQuoteNames
namespace Go.Proofs.YtcpknkdnboiecaaDoor
open Go
theorem quoteNames_card : Rows.QuoteNamesCardSaid := quoteNames.card_of trivial
#print axioms quoteNames_card
end Go.Proofs.YtcpknkdnboiecaaDoor
