/- LogfmtKnown: its examples, and those that are none: closed facts; its row and its tied card. No condition. -/
import Derived.Test.YtnmofpefofkoeaaGreatDoorRows
import Derived.Test.YtnmofpefofkoeaaGreatDoorG
import Derived.Test.YtnmofpefofkoeaaGreatDoorEscape
import Derived.ProofKit
import Derived.LaidMore
import Derived.Lay
import Derived.PinnedBridge
import Derived.Lib.LaidIn
import Derived.Lib.LaidU8
import Derived.Lib.LaidCase
import Derived.Deep.DeepLaidRun
import Derived.Test.YtnmofpefofkoeaaGreatDoorFDriftnetlaw16LogfmtKnown
import Derived.Test.YtnmofpefofkoeaaGreatDoorCards
import Derived.Test.YtnmofpefofkoeaaGreatDoorTie
import Derived.WalkKit
import Derived.OpenShut
import Derived.ShutString
import Derived.ChangeOld
import Derived.Below
import Derived.SizedLaws
import Derived.SevenTiedAt
import Derived.Stop.Joined
set_option linter.unusedVariables false
namespace Go.Proofs.YtnmofpefofkoeaaGreatDoor
open Go Go.RowKit Go.Maps Go.WideElems Go.WideMaps Go.Lib

def laidL : List (String × DataW Unit) := [("math/bits.deBruijn32tab", Rows.laid_math_bits_deBruijn32tab), ("math/bits.deBruijn64tab", Rows.laid_math_bits_deBruijn64tab), ("internal/strconv.uint64pow10", Rows.laid_internal_strconv_uint64pow10), ("unicode/utf8.acceptRanges", Rows.laid_unicode_utf8_acceptRanges), ("strconv.ErrRange", Rows.laid_strconv_ErrRange), ("strconv.ErrSyntax", Rows.laid_strconv_ErrSyntax), ("driftnet/quote.escapes", Rows.laid_driftnet_quote_escapes), ("driftnet/quote.coded", Rows.laid_driftnet_quote_coded), ("unicode.CaseRanges", Rows.laid_unicode_CaseRanges), ("unicode/utf8.first", Rows.laid_unicode_utf8_first)]

theorem u8x : U8Extra Tryz.prog Tryz.lays160_ren := ⟨by kernel_rfl, by kernel_rfl, by kernel_rfl, by kernel_rfl, by kernel_rfl, by kernel_rfl, by kernel_rfl⟩
theorem casex : CaseExtra Tryz.prog Tryz.lays204_ren := ⟨by kernel_rfl, by kernel_rfl, by kernel_rfl, by kernel_rfl, by kernel_rfl, by kernel_rfl⟩
theorem accept_eq : (Rows.laid_unicode_utf8_acceptRanges : DataW Unit) = Lib.acceptData := by kernel_rfl

set_option maxRecDepth 100000 in
theorem holds_of_reads {K E g T : Nat} {q : IntKind} {name : String} {D : DataW Unit} {W : World} (h : Lib.VarReads Tryz.prog W name D) (hg : Tryz.prog.globalNamed name = some g) (hy : (Tryz.prog.globals[g]?).map (·.type) = some T)
    (ht : Tryz.prog.underlying T = some (.map K E)) (he : Tryz.prog.underlying E = some (.int q)) (hne : ∃ l, D = .map l) : HoldsMap Tryz.prog K E g D W := by
  obtain ⟨g', t, cs, fuel, p, hg', ht', hv, hd⟩ := h
  obtain rfl := Option.some.inj (hg.symm.trans hg')
  obtain rfl := Option.some.inj (hy.symm.trans ht')
  rcases open_map ht hd with ⟨_, hx⟩ | ⟨bm, es, clock, mm, rfl, hcs, hb, _, F, hx⟩
  · obtain ⟨l, rfl⟩ := hne
    simp at hx
  simp only [Prod.mk.injEq] at hx
  have hcell : W.cell? ⟨g, 0, none⟩ = some (.map (some bm)) := by
    have := World.var?_cell hg hv 0
    rw [Array.eq_one_of_toList hcs] at this
    simpa using this
  refine ⟨bm, es.size, hcell, ?_⟩
  have := World.ownsMap_of_fit (R := plainElem Tryz.prog E) hb F (fun x _ z hz => elemAt_plainElem_int he hz)
  rw [← hx.1] at this
  exact this

set_option maxRecDepth 100000 in
theorem G_of_laid {W : World} (h : laidMetH Tryz.prog laidL W) : G W := by
  rw [MakeChecks.laidMetH_plain _ _ _ (by kernel_rfl)] at h
  have r := fun {n : String} {d : DataW Unit} (hm : (n, d) ∈ laidL) => Lib.laidMet.reads h hm
  refine ⟨?_, ?_, ?_, ?_⟩
  · have h1 := r (n := "unicode/utf8.first") (d := Rows.laid_unicode_utf8_first) (by simp [laidL])
    have h2 := r (n := "unicode/utf8.acceptRanges") (d := Rows.laid_unicode_utf8_acceptRanges) (by simp [laidL])
    rw [show Rows.laid_unicode_utf8_first = Lib.firstData from Pinned.utf8First_eq] at h1
    rw [accept_eq] at h2
    exact utf8Tabs_of_reads (ρ := Tryz.lays160_ren) { Tryz.lays160 with } u8x h1 h2
  · have h1 := r (n := "unicode.CaseRanges") (d := Rows.laid_unicode_CaseRanges) (by simp [laidL])
    rw [show Rows.laid_unicode_CaseRanges = Lib.caseData from Pinned.caseRanges_eq] at h1
    exact caseVar_of_reads (ρ := Tryz.lays204_ren) { Tryz.lays204 with } (by kernel_rfl) casex h1
  · exact holds_of_reads (T := 115) (q := .u8) (r (n := "driftnet/quote.escapes") (d := Rows.laid_driftnet_quote_escapes) (by simp [laidL])) (by kernel_rfl) (by kernel_rfl) Tryz.underlying115 Tryz.underlying5 ⟨_, rfl⟩
  · exact holds_of_reads (T := 116) (q := .i64) (r (n := "driftnet/quote.coded") (d := Rows.laid_driftnet_quote_coded) (by simp [laidL])) (by kernel_rfl) (by kernel_rfl) Tryz.underlying116 Tryz.underlying3 ⟨_, rfl⟩

end Go.Proofs.YtnmofpefofkoeaaGreatDoor
set_option linter.unusedVariables false
namespace Go.Proofs.YtnmofpefofkoeaaGreatDoor
open Go Go.RowKit

def greatN : List String := ["unicode.CaseRanges", "unicode/utf8.first"]
def greatL : List (String × DataW Unit) := [("unicode.CaseRanges", Rows.laid_unicode_CaseRanges), ("unicode/utf8.first", Rows.laid_unicode_utf8_first)]
def smallL : List (String × DataW Unit) := [("math/bits.deBruijn32tab", Rows.laid_math_bits_deBruijn32tab), ("math/bits.deBruijn64tab", Rows.laid_math_bits_deBruijn64tab), ("internal/strconv.uint64pow10", Rows.laid_internal_strconv_uint64pow10), ("unicode/utf8.acceptRanges", Rows.laid_unicode_utf8_acceptRanges), ("strconv.ErrRange", Rows.laid_strconv_ErrRange), ("strconv.ErrSyntax", Rows.laid_strconv_ErrSyntax), ("driftnet/quote.escapes", Rows.laid_driftnet_quote_escapes), ("driftnet/quote.coded", Rows.laid_driftnet_quote_coded)]
def smallB : List Nat := (List.range 20).filter fun k => k != 3 && k != 5
noncomputable def world0 (os : Os) : World := (World.doorLaid Tryz.prog 400 os).layVars Tryz.prog greatL
theorem world0_os (os : Os) : (world0 os).os = os := World.layVars_os _ _ _
theorem great_eq : (laidL.filter fun x => greatN.contains x.1) = greatL := by simp [laidL, greatN, greatL]
theorem small_eq : (laidL.filter fun x => !greatN.contains x.1) = smallL := by simp [laidL, greatN, smallL]

set_option maxRecDepth 100000 in
theorem world0_met (os : Os) (args : Array Value) : laidMetH Tryz.prog laidL ((world0 os).forCall (fun _ _ => 0) ⟨#[], args, []⟩).memory := by
  rw [MakeChecks.laidMetH_plain _ _ _ (by kernel_rfl)]
  refine laidMet_layVars (w0 := World.doorLaid Tryz.prog 400 os) greatN smallB ?_ ?_ ?_ ?_
  · rw [great_eq]; simp [World.memory, World.forCall, Input.heap, world0]
  · rw [great_eq]; kernel_rfl
  · rw [great_eq]; kernel_rfl
  · rw [small_eq]
    exact LaidIn.of_run smallB 8 (by kernel_rfl) (by kernel_rfl) (by kernel_rfl) (by kernel_rfl)
end Go.Proofs.YtnmofpefofkoeaaGreatDoor
namespace Go.Proofs.YtnmofpefofkoeaaGreatDoor.P
open Go Go.RowKit Go.Proofs.YtnmofpefofkoeaaGreatDoorW.PrintWords
theorem known16_1 : driftnetlaw16_tells.f 60 (⟨#[]⟩ : ByteArray) ([] : List ByteArray) = some true := by decide +kernel
theorem known16_2 : driftnetlaw16_tells.f 60 (⟨#[32, 9, 10]⟩ : ByteArray) ([] : List ByteArray) = some true := by decide +kernel
theorem known16_3 : driftnetlaw16_tells.f 60 (⟨#[97]⟩ : ByteArray) ([] : List ByteArray) = some true := by decide +kernel
theorem known16_4 : driftnetlaw16_tells.f 60 (⟨#[97, 61]⟩ : ByteArray) ([] : List ByteArray) = some true := by decide +kernel
theorem known16_5 : driftnetlaw16_tells.f 60 (⟨#[97, 61, 34, 34]⟩ : ByteArray) ([] : List ByteArray) = some true := by decide +kernel
theorem known16_6 : driftnetlaw16_tells.f 60 (⟨#[97, 61, 49, 0, 98, 61, 50]⟩ : ByteArray) (([(⟨#[97]⟩ : ByteArray), (⟨#[49]⟩ : ByteArray), (⟨#[98]⟩ : ByteArray), (⟨#[50]⟩ : ByteArray)] : List ByteArray)) = some true := by decide +kernel
theorem known16_7 : driftnetlaw16_tells.f 60 (⟨#[97, 61, 34, 92, 117, 48, 48, 101, 57, 92, 34, 34]⟩ : ByteArray) (([(⟨#[97]⟩ : ByteArray), (⟨#[195, 169, 34]⟩ : ByteArray)] : List ByteArray)) = some true := by decide +kernel
theorem known16_8 : driftnetlaw16_tells.f 60 (⟨#[195, 169, 61, 195, 188]⟩ : ByteArray) (([(⟨#[95, 95]⟩ : ByteArray), (⟨#[195, 188]⟩ : ByteArray)] : List ByteArray)) = some true := by decide +kernel
theorem known16_9 : driftnetlaw16_tells.f 60 (⟨#[97, 61, 127]⟩ : ByteArray) (([(⟨#[97]⟩ : ByteArray), (⟨#[127]⟩ : ByteArray)] : List ByteArray)) = some true := by decide +kernel
theorem known16_10 : driftnetlaw16_tells.f 60 (⟨#[97, 61, 96, 120]⟩ : ByteArray) (([(⟨#[97]⟩ : ByteArray), (⟨#[96, 120]⟩ : ByteArray)] : List ByteArray)) = some true := by decide +kernel
theorem known16_11 : driftnetlaw16_tells.f 60 (⟨#[57, 61, 49]⟩ : ByteArray) (([(⟨#[95, 57]⟩ : ByteArray), (⟨#[49]⟩ : ByteArray)] : List ByteArray)) = some true := by decide +kernel
theorem known16_12 : driftnetlaw16_tells.f 60 (⟨#[98, 61, 50, 32, 97, 61, 49]⟩ : ByteArray) (([(⟨#[97]⟩ : ByteArray), (⟨#[49]⟩ : ByteArray), (⟨#[98]⟩ : ByteArray), (⟨#[50]⟩ : ByteArray)] : List ByteArray)) = some true := by decide +kernel
theorem known16_13 : driftnetlaw16_tells.f 60 (⟨#[97, 61, 49, 32, 97]⟩ : ByteArray) ([] : List ByteArray) = some true := by decide +kernel
theorem known16_14 : driftnetlaw16_tells.f 60 (⟨#[97, 61, 49, 32, 97, 61]⟩ : ByteArray) ([] : List ByteArray) = some true := by decide +kernel
theorem known16_15 : driftnetlaw16_tells.f 60 (⟨#[97, 46, 98, 61, 49, 32, 97, 45, 98, 61, 50]⟩ : ByteArray) (([(⟨#[97, 95, 98]⟩ : ByteArray), (⟨#[50]⟩ : ByteArray)] : List ByteArray)) = some true := by decide +kernel
theorem known16 : driftnetlaw16_LogfmtKnown.f 60 = some true := by decide +kernel
theorem driftnetlaw16_LogfmtKnown.walk (PU : driftnetlaw16_LogfmtKnown.Pure) (w : World) (hG : Aside0 (G w)) :
    Calls Tryz.prog 5 #[] w fun e w' => e = .returned (.bool true) ∧ Below w.heap.size w w' :=
  driftnetlaw16_LogfmtKnown.calls 60 true w hG known16_1 known16_2 known16_3 known16_4 known16_5 known16_6 known16_7 known16_8 known16_9 known16_10 known16_11 known16_12 known16_13 known16_14 known16_15 known16
end Go.Proofs.YtnmofpefofkoeaaGreatDoor.P
namespace Go.Proofs.YtnmofpefofkoeaaGreatDoor.logfmtKnown
open Go Go.ChangeShapes Go.WideShapes Go.ChangeAt Go.RowKit
open Go.ChangeMaps (open_string shut_string)
set_option linter.unusedVariables false
theorem own : ownKnob Tryz.prog.godebug = none := by kernel_rfl
set_option maxRecDepth 100000 in
theorem lifted (PU : P.driftnetlaw16_LogfmtKnown.Pure) (os : Os) (started : os.Started) (H : Type) (enc : TypeId × Value → H) :
    ReturnsInHanded {} Tryz.checked os 5 .any (fun w args => (Rows.logfmtKnownSpec.pre enc Tryz.prog Tryz.f5 Rows.logfmtKnownRow.domain false w args ∧ laidMetH Tryz.prog Rows.logfmtKnownRow.laid w) ∧ sizedMet enc Tryz.prog Tryz.f5 (OpenSpec.ofChange Rows.logfmtKnownSpec) false w args)
      (Rows.logfmtKnownSpec.post enc Tryz.prog Tryz.f5 false true false false) := by
  refine returnsInHanded_of_change_and (C := Tryz.checked) (X := fun w _ => laidMetH Tryz.prog laidL w) (fun _ _ _ hh h => h.of_heap hh) own started (by kernel_rfl) Tryz.func5
    (ChangeSpec.witness_shaped (enc := enc) (C := Tryz.checked) (os := os) (X := fun w _ => laidMetH Tryz.prog laidL w) false (world0 os) #[] 8 (world0_os _)
      (World.shaped_of_ZipB (by kernel_rfl) (by kernel_rfl)) (by kernel_rfl) (by kernel_rfl) (by kernel_rfl) (world0_met os _)) ?_
  intro W base args ds gs before hval0 hW hcnd hsz0 hL _
  have hsz : (DataW.weightsEach Tryz.prog (Tryz.f5.params.toList ++ Rows.logfmtKnownSpec.plain.varTypes Tryz.prog) (ds ++ gs)).all (· ≤ reachBytes) = true := hsz0
  have hval : ∀ (j : Nat) t v, Tryz.f5.params[j]? = some t → args[j]? = some v → Value.okWide Tryz.prog W .any base t v := hval0
  have hW' := hW
  obtain ⟨p, q, hA0, hV, rfl, hfz, hnd⟩ := hW
  have hA : DataW.TrodAll enc Tryz.prog W 0 (fun _ => true) true Tryz.f5.params.toList args.toList ds p := hA0
  rw [Tryz.params5] at hA hval hsz
  obtain ⟨rfl, rfl, rfl⟩ := trodAll_none hA
  obtain ⟨rfl, rfl⟩ := trodVars_none hV
  clear hA0 hval0 hsz0 hsz
  refine (P.driftnetlaw16_LogfmtKnown.walk PU  W ⟨G_of_laid hL⟩ ).mono fun e W' ⟨he, bel⟩ => ?_
  subst he
  exact ⟨_, rfl, _, _, _, [], _, [], hW', trodAll_mk1 (shut_bool Tryz.underlying4 _), trodAll_mk0, rfl, bel.frame _, fun h => by cases h⟩
theorem over (PU : P.driftnetlaw16_LogfmtKnown.Pure) : Rows.LogfmtKnownSaid :=
  OpenClaim.holds_of_wide 5 Tryz.f5 rfl rfl rfl rfl rfl rfl rfl ⟨rfl, rfl, rfl, rfl, rfl⟩ rfl rfl rfl rfl rfl (by kernel_rfl) Tryz.func5 (by kernel_rfl)
    (of_decide_eq_true (by kernel_rfl)) (by unfold Func.isWrapper; first | (rw [if_pos (by decide +kernel)]; kernel_rfl) | (rw [if_neg (by decide +kernel)]; exact ⟨rfl, rfl⟩))
    (fun os started H enc _ => lifted PU os started H enc)
theorem card_of (PU : P.driftnetlaw16_LogfmtKnown.Pure) : Rows.LogfmtKnownCardSaid :=
  Claim7.holds_tied_plain_at .later [] Rows.logfmtKnownCard.laidKinds true Rows.logfmtKnownCard.stood.harness Rows.logfmtKnownCard.stood.looks (over PU) (fun _ h => by cases h) (by kernel_rfl) (fun _ h => by cases h) logfmtKnown_row_tie rfl ⟨rfl, rfl⟩ (by kernel_rfl) rfl
    (fun f fn hf hfn => by
      obtain rfl : f = 5 := Option.some.inj ((show Tryz.prog.funcNamed "driftnet/driftnetlaw16.LogfmtKnown" = some 5 by kernel_rfl).symm.trans hf) |>.symm
      obtain rfl : fn = Tryz.f5 := (Option.some.inj (Tryz.func5.symm.trans hfn)).symm
      exact ⟨by kernel_rfl, fun j t ht => by
        rw [Tryz.params5] at ht
        simp at ht⟩)
    (by kernel_rfl)
end Go.Proofs.YtnmofpefofkoeaaGreatDoor.logfmtKnown
namespace Go.Proofs.YtnmofpefofkoeaaGreatDoor
open Go
theorem logfmtKnown_pure : P.driftnetlaw16_LogfmtKnown.Pure := ⟨60, P.known16⟩
theorem logfmtKnown_card : Rows.LogfmtKnownCardSaid := logfmtKnown.card_of logfmtKnown_pure
#print axioms logfmtKnown_card
end Go.Proofs.YtnmofpefofkoeaaGreatDoor
