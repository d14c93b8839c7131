/- QuoteQuotes: Quote and Unquote answer as the reference does, of all texts (2000 bytes at most): its pure statement, and its tied card. -/
import Derived.Test.YtcpknkdnboiecaaDoorLawQuoteQuotes
import Derived.Test.YtcpknkdnboiecaaDoorRefAll
import Derived.Test.YtcpknkdnboiecaaDoorWorks
set_option linter.unusedVariables false
namespace Go.Proofs.YtcpknkdnboiecaaDoor
open Go Go.RowKit Go.Proofs.YtcpknkdnboiecaaDoorW.PrintWords Go.Proofs.YtcpknkdnboiecaaDoorW.PrintMore Go.Lib
theorem quoteQuotes_pure : P.driftnetlaw04_QuoteQuotes.Pure := by
  intro a0 ha
  refine ⟨7000, ?_⟩
  unfold P.driftnetlaw04_QuoteQuotes.f
  have hm0 : 0 ≤ mn (a0.size : Int) 2000 := by unfold mn; split <;> omega
  have hm1 : mn (a0.size : Int) 2000 ≤ (a0.size : Int) := by unfold mn; split <;> omega
  have hm2 : mn (a0.size : Int) 2000 ≤ 2000 := by unfold mn; split <;> omega
  rw [if_pos hm0, if_pos hm1]
  generalize hx : a0.extract 0 (mn (a0.size : Int) 2000).toNat = x
  have hs : x.size ≤ 2000 := by rw [← hx, ByteArray.size_extract]; omega
  have h1 : P.quote_Unquote.f x = some (P.unq2 (unquoteP x)) := by unfold P.quote_Unquote.f; rw [if_pos (by omega)]
  rw [h1, ref_unquote x hs 7000 (by omega), ref_quote x hs 7000 (by omega)]
  have h2 : P.quote_Quote.f x = some ⟨(quoteBytes x).toArray⟩ := by unfold P.quote_Quote.f; rw [if_pos (by omega)]
  rw [h2, Option.bind_some, Option.bind_some, Option.bind_some, Option.bind_some, if_pos rfl, if_pos rfl, if_pos rfl, works_true]
  rfl
theorem quoteQuotes_card : Rows.QuoteQuotesCardSaid := quoteQuotes.card_of quoteQuotes_pure
#print axioms quoteQuotes_card
end Go.Proofs.YtcpknkdnboiecaaDoor
