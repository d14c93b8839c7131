/- A world in which the list of laid variables stands: where the door's own run leaves, with the two great tables laid. No condition. -/
import Derived.Test.YtcpknkdnboiecaaDoorLaid
import Derived.Deep.DeepLaidRun
set_option linter.unusedVariables false
namespace Go.Proofs.YtcpknkdnboiecaaDoor
open Go Go.RowKit

def greatN : List String := ["unicode.CaseRanges", "unicode/utf8.first"]
def greatL : List (String × DataW Unit) := [("unicode.CaseRanges", Rows.laid_unicode_CaseRanges), ("unicode/utf8.first", Rows.laid_unicode_utf8_first)]
def smallL : List (String × DataW Unit) := [("math/bits.deBruijn32tab", Rows.laid_math_bits_deBruijn32tab), ("math/bits.deBruijn64tab", Rows.laid_math_bits_deBruijn64tab), ("internal/strconv.uint64pow10", Rows.laid_internal_strconv_uint64pow10), ("unicode/utf8.acceptRanges", Rows.laid_unicode_utf8_acceptRanges), ("strconv.ErrRange", Rows.laid_strconv_ErrRange), ("strconv.ErrSyntax", Rows.laid_strconv_ErrSyntax), ("driftnet/quote.escapes", Rows.laid_driftnet_quote_escapes), ("driftnet/quote.coded", Rows.laid_driftnet_quote_coded)]
def smallB : List Nat := [0, 1, 3, 4, 6, 7, 8, 9, 10, 11, 12, 13, 14, 15, 16, 17, 18, 19]
noncomputable def world0 (os : Os) : World := (World.doorLaid Tryd.prog 400 os).layVars Tryd.prog greatL
theorem world0_os (os : Os) : (world0 os).os = os := World.layVars_os _ _ _
theorem great_eq : (laidL.filter fun x => greatN.contains x.1) = greatL := by simp [laidL, greatN, greatL]
theorem small_eq : (laidL.filter fun x => !greatN.contains x.1) = smallL := by simp [laidL, greatN, smallL]

set_option maxRecDepth 100000 in
theorem world0_met (os : Os) (args : Array Value) : laidMetH Tryd.prog laidL ((world0 os).forCall (fun _ _ => 0) ⟨#[], args, []⟩).memory := by
  rw [MakeChecks.laidMetH_plain _ _ _ (by kernel_rfl)]
  refine laidMet_layVars (w0 := World.doorLaid Tryd.prog 400 os) greatN smallB ?_ ?_ ?_ ?_
  · rw [great_eq]; simp [World.memory, World.forCall, Input.heap, world0]
  · rw [great_eq]; kernel_rfl
  · rw [great_eq]; kernel_rfl
  · rw [small_eq]
    exact LaidIn.of_run smallB 8 (by kernel_rfl) (by kernel_rfl) (by kernel_rfl) (by kernel_rfl)
end Go.Proofs.YtcpknkdnboiecaaDoor
