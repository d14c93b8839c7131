/- What the rows' list of laid variables gives ('G'), and a world in which that list stands. No condition. -/
import Derived.Test.YtcpknkdnboiecaaDoorRows
import Derived.Test.YtcpknkdnboiecaaDoorG
import Derived.Test.YtcpknkdnboiecaaDoorEscape
import Derived.ProofKit
import Derived.LaidMore
import Derived.Lay
import Derived.PinnedBridge
import Derived.Lib.LaidIn
import Derived.Lib.LaidU8
import Derived.Lib.LaidCase
set_option linter.unusedVariables false
namespace Go.Proofs.YtcpknkdnboiecaaDoor
open Go Go.RowKit Go.Maps Go.WideElems Go.WideMaps Go.Lib

def laidL : List (String × DataW Unit) := [("math/bits.deBruijn32tab", Rows.laid_math_bits_deBruijn32tab), ("math/bits.deBruijn64tab", Rows.laid_math_bits_deBruijn64tab), ("internal/strconv.uint64pow10", Rows.laid_internal_strconv_uint64pow10), ("unicode/utf8.acceptRanges", Rows.laid_unicode_utf8_acceptRanges), ("strconv.ErrRange", Rows.laid_strconv_ErrRange), ("strconv.ErrSyntax", Rows.laid_strconv_ErrSyntax), ("driftnet/quote.escapes", Rows.laid_driftnet_quote_escapes), ("driftnet/quote.coded", Rows.laid_driftnet_quote_coded), ("unicode.CaseRanges", Rows.laid_unicode_CaseRanges), ("unicode/utf8.first", Rows.laid_unicode_utf8_first)]

theorem u8x : U8Extra Tryd.prog Tryd.lays160_ren := ⟨by kernel_rfl, by kernel_rfl, by kernel_rfl, by kernel_rfl, by kernel_rfl, by kernel_rfl, by kernel_rfl⟩
theorem casex : CaseExtra Tryd.prog Tryd.lays204_ren := ⟨by kernel_rfl, by kernel_rfl, by kernel_rfl, by kernel_rfl, by kernel_rfl, by kernel_rfl⟩
theorem accept_eq : (Rows.laid_unicode_utf8_acceptRanges : DataW Unit) = Lib.acceptData := by kernel_rfl

set_option maxRecDepth 100000 in
theorem holds_of_reads {K E g T : Nat} {q : IntKind} {name : String} {D : DataW Unit} {W : World} (h : Lib.VarReads Tryd.prog W name D) (hg : Tryd.prog.globalNamed name = some g) (hy : (Tryd.prog.globals[g]?).map (·.type) = some T)
    (ht : Tryd.prog.underlying T = some (.map K E)) (he : Tryd.prog.underlying E = some (.int q)) (hne : ∃ l, D = .map l) : HoldsMap Tryd.prog K E g D W := by
  obtain ⟨g', t, cs, fuel, p, hg', ht', hv, hd⟩ := h
  obtain rfl := Option.some.inj (hg.symm.trans hg')
  obtain rfl := Option.some.inj (hy.symm.trans ht')
  rcases open_map ht hd with ⟨_, hx⟩ | ⟨bm, es, clock, mm, rfl, hcs, hb, _, F, hx⟩
  · obtain ⟨l, rfl⟩ := hne
    simp at hx
  simp only [Prod.mk.injEq] at hx
  have hcell : W.cell? ⟨g, 0, none⟩ = some (.map (some bm)) := by
    have := World.var?_cell hg hv 0
    rw [Array.eq_one_of_toList hcs] at this
    simpa using this
  refine ⟨bm, es.size, hcell, ?_⟩
  have := World.ownsMap_of_fit (R := plainElem Tryd.prog E) hb F (fun x _ z hz => elemAt_plainElem_int he hz)
  rw [← hx.1] at this
  exact this

set_option maxRecDepth 100000 in
theorem G_of_laid {W : World} (h : laidMetH Tryd.prog laidL W) : G W := by
  rw [MakeChecks.laidMetH_plain _ _ _ (by kernel_rfl)] at h
  have r := fun {n : String} {d : DataW Unit} (hm : (n, d) ∈ laidL) => Lib.laidMet.reads h hm
  refine ⟨?_, ?_, ?_, ?_⟩
  · have h1 := r (n := "unicode/utf8.first") (d := Rows.laid_unicode_utf8_first) (by simp [laidL])
    have h2 := r (n := "unicode/utf8.acceptRanges") (d := Rows.laid_unicode_utf8_acceptRanges) (by simp [laidL])
    rw [show Rows.laid_unicode_utf8_first = Lib.firstData from Pinned.utf8First_eq] at h1
    rw [accept_eq] at h2
    exact utf8Tabs_of_reads (ρ := Tryd.lays160_ren) { Tryd.lays160 with } u8x h1 h2
  · have h1 := r (n := "unicode.CaseRanges") (d := Rows.laid_unicode_CaseRanges) (by simp [laidL])
    rw [show Rows.laid_unicode_CaseRanges = Lib.caseData from Pinned.caseRanges_eq] at h1
    exact caseVar_of_reads (ρ := Tryd.lays204_ren) { Tryd.lays204 with } (by kernel_rfl) casex h1
  · exact holds_of_reads (T := 57) (q := .u8) (r (n := "driftnet/quote.escapes") (d := Rows.laid_driftnet_quote_escapes) (by simp [laidL])) (by kernel_rfl) (by kernel_rfl) Tryd.underlying57 Tryd.underlying5 ⟨_, rfl⟩
  · exact holds_of_reads (T := 59) (q := .i64) (r (n := "driftnet/quote.coded") (d := Rows.laid_driftnet_quote_coded) (by simp [laidL])) (by kernel_rfl) (by kernel_rfl) Tryd.underlying59 Tryd.underlying3 ⟨_, rfl⟩

end Go.Proofs.YtcpknkdnboiecaaDoor
