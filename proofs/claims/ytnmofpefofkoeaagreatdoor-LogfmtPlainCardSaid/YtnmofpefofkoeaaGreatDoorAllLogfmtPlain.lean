/- LogfmtPlain: a line of short names and values that need no quotes is read as it was written: its pure statement, its row and its tied card. No condition. -/
import Derived.Test.YtnmofpefofkoeaaGreatDoorRows
import Derived.Test.YtnmofpefofkoeaaGreatDoorG
import Derived.Test.YtnmofpefofkoeaaGreatDoorEscape
import Derived.ProofKit
import Derived.LaidMore
import Derived.Lay
import Derived.PinnedBridge
import Derived.Lib.LaidIn
import Derived.Lib.LaidU8
import Derived.Lib.LaidCase
import Derived.Deep.DeepLaidRun
import Derived.Test.YtnmofpefofkoeaaGreatDoorParse
import Derived.Test.YtnmofpefofkoeaaGreatDoorFPlainM
import Derived.Test.YtnmofpefofkoeaaGreatDoorCards
import Derived.Test.YtnmofpefofkoeaaGreatDoorTie
import Derived.WalkKit
import Derived.OpenShut
import Derived.ShutString
import Derived.ChangeOld
import Derived.Below
import Derived.SizedLaws
import Derived.SevenTiedAt
import Derived.Stop.Joined
import Derived.SliceStrings
set_option linter.unusedVariables false
namespace Go.Proofs.YtnmofpefofkoeaaGreatDoor
open Go Go.RowKit Go.Maps Go.WideElems Go.WideMaps Go.Lib

def laidL : List (String × DataW Unit) := [("math/bits.deBruijn32tab", Rows.laid_math_bits_deBruijn32tab), ("math/bits.deBruijn64tab", Rows.laid_math_bits_deBruijn64tab), ("internal/strconv.uint64pow10", Rows.laid_internal_strconv_uint64pow10), ("unicode/utf8.acceptRanges", Rows.laid_unicode_utf8_acceptRanges), ("strconv.ErrRange", Rows.laid_strconv_ErrRange), ("strconv.ErrSyntax", Rows.laid_strconv_ErrSyntax), ("driftnet/quote.escapes", Rows.laid_driftnet_quote_escapes), ("driftnet/quote.coded", Rows.laid_driftnet_quote_coded), ("unicode.CaseRanges", Rows.laid_unicode_CaseRanges), ("unicode/utf8.first", Rows.laid_unicode_utf8_first)]

theorem u8x : U8Extra Tryz.prog Tryz.lays160_ren := ⟨by kernel_rfl, by kernel_rfl, by kernel_rfl, by kernel_rfl, by kernel_rfl, by kernel_rfl, by kernel_rfl⟩
theorem casex : CaseExtra Tryz.prog Tryz.lays204_ren := ⟨by kernel_rfl, by kernel_rfl, by kernel_rfl, by kernel_rfl, by kernel_rfl, by kernel_rfl⟩
theorem accept_eq : (Rows.laid_unicode_utf8_acceptRanges : DataW Unit) = Lib.acceptData := by kernel_rfl

set_option maxRecDepth 100000 in
theorem holds_of_reads {K E g T : Nat} {q : IntKind} {name : String} {D : DataW Unit} {W : World} (h : Lib.VarReads Tryz.prog W name D) (hg : Tryz.prog.globalNamed name = some g) (hy : (Tryz.prog.globals[g]?).map (·.type) = some T)
    (ht : Tryz.prog.underlying T = some (.map K E)) (he : Tryz.prog.underlying E = some (.int q)) (hne : ∃ l, D = .map l) : HoldsMap Tryz.prog K E g D W := by
  obtain ⟨g', t, cs, fuel, p, hg', ht', hv, hd⟩ := h
  obtain rfl := Option.some.inj (hg.symm.trans hg')
  obtain rfl := Option.some.inj (hy.symm.trans ht')
  rcases open_map ht hd with ⟨_, hx⟩ | ⟨bm, es, clock, mm, rfl, hcs, hb, _, F, hx⟩
  · obtain ⟨l, rfl⟩ := hne
    simp at hx
  simp only [Prod.mk.injEq] at hx
  have hcell : W.cell? ⟨g, 0, none⟩ = some (.map (some bm)) := by
    have := World.var?_cell hg hv 0
    rw [Array.eq_one_of_toList hcs] at this
    simpa using this
  refine ⟨bm, es.size, hcell, ?_⟩
  have := World.ownsMap_of_fit (R := plainElem Tryz.prog E) hb F (fun x _ z hz => elemAt_plainElem_int he hz)
  rw [← hx.1] at this
  exact this

set_option maxRecDepth 100000 in
theorem G_of_laid {W : World} (h : laidMetH Tryz.prog laidL W) : G W := by
  rw [MakeChecks.laidMetH_plain _ _ _ (by kernel_rfl)] at h
  have r := fun {n : String} {d : DataW Unit} (hm : (n, d) ∈ laidL) => Lib.laidMet.reads h hm
  refine ⟨?_, ?_, ?_, ?_⟩
  · have h1 := r (n := "unicode/utf8.first") (d := Rows.laid_unicode_utf8_first) (by simp [laidL])
    have h2 := r (n := "unicode/utf8.acceptRanges") (d := Rows.laid_unicode_utf8_acceptRanges) (by simp [laidL])
    rw [show Rows.laid_unicode_utf8_first = Lib.firstData from Pinned.utf8First_eq] at h1
    rw [accept_eq] at h2
    exact utf8Tabs_of_reads (ρ := Tryz.lays160_ren) { Tryz.lays160 with } u8x h1 h2
  · have h1 := r (n := "unicode.CaseRanges") (d := Rows.laid_unicode_CaseRanges) (by simp [laidL])
    rw [show Rows.laid_unicode_CaseRanges = Lib.caseData from Pinned.caseRanges_eq] at h1
    exact caseVar_of_reads (ρ := Tryz.lays204_ren) { Tryz.lays204 with } (by kernel_rfl) casex h1
  · exact holds_of_reads (T := 115) (q := .u8) (r (n := "driftnet/quote.escapes") (d := Rows.laid_driftnet_quote_escapes) (by simp [laidL])) (by kernel_rfl) (by kernel_rfl) Tryz.underlying115 Tryz.underlying5 ⟨_, rfl⟩
  · exact holds_of_reads (T := 116) (q := .i64) (r (n := "driftnet/quote.coded") (d := Rows.laid_driftnet_quote_coded) (by simp [laidL])) (by kernel_rfl) (by kernel_rfl) Tryz.underlying116 Tryz.underlying3 ⟨_, rfl⟩

end Go.Proofs.YtnmofpefofkoeaaGreatDoor
set_option linter.unusedVariables false
namespace Go.Proofs.YtnmofpefofkoeaaGreatDoor
open Go Go.RowKit

def greatN : List String := ["unicode.CaseRanges", "unicode/utf8.first"]
def greatL : List (String × DataW Unit) := [("unicode.CaseRanges", Rows.laid_unicode_CaseRanges), ("unicode/utf8.first", Rows.laid_unicode_utf8_first)]
def smallL : List (String × DataW Unit) := [("math/bits.deBruijn32tab", Rows.laid_math_bits_deBruijn32tab), ("math/bits.deBruijn64tab", Rows.laid_math_bits_deBruijn64tab), ("internal/strconv.uint64pow10", Rows.laid_internal_strconv_uint64pow10), ("unicode/utf8.acceptRanges", Rows.laid_unicode_utf8_acceptRanges), ("strconv.ErrRange", Rows.laid_strconv_ErrRange), ("strconv.ErrSyntax", Rows.laid_strconv_ErrSyntax), ("driftnet/quote.escapes", Rows.laid_driftnet_quote_escapes), ("driftnet/quote.coded", Rows.laid_driftnet_quote_coded)]
def smallB : List Nat := (List.range 20).filter fun k => k != 3 && k != 5
noncomputable def world0 (os : Os) : World := (World.doorLaid Tryz.prog 400 os).layVars Tryz.prog greatL
theorem world0_os (os : Os) : (world0 os).os = os := World.layVars_os _ _ _
theorem great_eq : (laidL.filter fun x => greatN.contains x.1) = greatL := by simp [laidL, greatN, greatL]
theorem small_eq : (laidL.filter fun x => !greatN.contains x.1) = smallL := by simp [laidL, greatN, smallL]

set_option maxRecDepth 100000 in
theorem world0_met (os : Os) (args : Array Value) : laidMetH Tryz.prog laidL ((world0 os).forCall (fun _ _ => 0) ⟨#[], args, []⟩).memory := by
  rw [MakeChecks.laidMetH_plain _ _ _ (by kernel_rfl)]
  refine laidMet_layVars (w0 := World.doorLaid Tryz.prog 400 os) greatN smallB ?_ ?_ ?_ ?_
  · rw [great_eq]; simp [World.memory, World.forCall, Input.heap, world0]
  · rw [great_eq]; kernel_rfl
  · rw [great_eq]; kernel_rfl
  · rw [small_eq]
    exact LaidIn.of_run smallB 8 (by kernel_rfl) (by kernel_rfl) (by kernel_rfl) (by kernel_rfl)
end Go.Proofs.YtnmofpefofkoeaaGreatDoor
set_option linter.unusedVariables false
namespace Go.Proofs.YtnmofpefofkoeaaGreatDoor
open Go Go.RowKit Go.Lib Go.Proofs.YtnmofpefofkoeaaGreatDoorW.PrintWords Go.Proofs.YtnmofpefofkoeaaGreatDoorW.PrintLast Go.Proofs.YtnmofpefofkoeaaGreatDoorW.PrintMore Go.Proofs.YtnmofpefofkoeaaGreatDoor.P

theorem bax_ext {s t : ByteArray} (h : s.data.toList = t.data.toList) : s = t := by
  cases s with | mk a => cases t with | mk b => cases a with | mk l => cases b with | mk m => simp only at h; rw [h]
theorem bax_extract (s : ByteArray) (a b : Nat) : (s.extract a b).data.toList = (s.data.toList.take b).drop a := by
  rw [ByteArray.data_extract, Array.toList_extract, List.extract_eq_take_drop, List.drop_take]
theorem mk_data (s : ByteArray) : s = ⟨s.data.toList.toArray⟩ := bax_ext rfl
theorem mk_size (l : List UInt8) : (⟨l.toArray⟩ : ByteArray).size = l.length := rfl
theorem plainN_app (v rest : List UInt8) (hv : ∀ c ∈ v, plainB c = true) (c : UInt8) (hc : plainB c = false) : plainN (v ++ c :: rest) = v.length := by
  induction v with
  | nil => rw [List.nil_append, plainN, hc]; rfl
  | cons a v ih => rw [List.cons_append, plainN, hv a (by simp), if_pos rfl, ih (fun c h => hv c (by simp [h]))]; rfl
theorem plain_at (v rest : List UInt8) (hv : ∀ c ∈ v, plainB c = true) (c : UInt8) (hc : plainB c = false) (hs : (v ++ c :: rest).length ≤ 17592186044416) :
    P.logfmt_reader_plain.f ⟨(v ++ c :: rest).toArray⟩ = some (⟨v.toArray⟩, ⟨(c :: rest).toArray⟩) := by
  unfold P.logfmt_reader_plain.f
  rw [if_pos (by rw [mk_size]; exact hs)]
  show some (ByteArray.extract _ 0 (plainN (v ++ c :: rest)), ByteArray.extract _ (plainN (v ++ c :: rest)) _) = _
  rw [plainN_app v rest hv c hc]
  congr 2
  · refine bax_ext ?_
    rw [bax_extract]; simp
  · refine bax_ext ?_
    rw [bax_extract, mk_size]
    show ((v ++ c :: rest).take (v ++ c :: rest).length).drop v.length = c :: rest
    rw [List.take_length, List.drop_left]

/-- One pair: a name of one byte, a value without blanks, = and ". -/
theorem pair_at (kk : Nat) (a : UInt8) (v rest : List UInt8) (ha : plainB a = true) (hv : ∀ c ∈ v, plainB c = true) (hs : v.length + rest.length ≤ 1000000000) :
    P.logfmt_reader_pair.f kk ⟨(a :: 61 :: (v ++ 32 :: rest)).toArray⟩ = some (⟨[a].toArray⟩, ⟨v.toArray⟩, true, ⟨(32 :: rest).toArray⟩) := by
  have h1 := plain_at [a] (v ++ 32 :: rest) (fun c h => by simp at h; subst h; exact ha) 61 (by decide) (by simp; omega)
  have h2 := plain_at v rest hv 32 (by decide) (by simp; omega)
  unfold P.logfmt_reader_pair.f
  rw [show a :: 61 :: (v ++ 32 :: rest) = [a] ++ 61 :: (v ++ 32 :: rest) from rfl, h1, Option.bind_some]
  simp only
  rw [if_neg (by rw [ByteArray.toList_eq]; exact List.cons_ne_nil _ _)]
  have hcut : P.strings_CutPrefix.f ⟨(61 :: (v ++ 32 :: rest)).toArray⟩ ⟨#[61]⟩ = some (⟨(v ++ 32 :: rest).toArray⟩, true) := by
    unfold P.strings_CutPrefix.f
    simp [Lib.trimPrefix, Lib.hasPrefix]
  rw [hcut, Option.bind_some, if_pos rfl]
  have hhas : P.strings_HasPrefix.f ⟨(v ++ 32 :: rest).toArray⟩ ⟨#[34]⟩ = some false := by
    unfold P.strings_HasPrefix.f
    cases v with
    | nil => simp [Lib.hasPrefix, List.isPrefixOf]
    | cons b v =>
      have hb := hv b (by simp)
      have : b ≠ 34 := by rintro rfl; exact absurd hb (by decide)
      simp [Lib.hasPrefix, List.isPrefixOf]
      intro h; exact this h.symm
  rw [hhas, Option.bind_some, if_neg (by decide), h2, Option.bind_some]

theorem skip_end (x : Int) (k : Nat) (l : List UInt8) (h : l = [] ∨ ∃ c t, l = c :: t ∧ 32 < c.toNat) : P.logfmt_reader_skip.l0 (k + 1) x ⟨l.toArray⟩ = some (decide ((l.length : Int) < x), ⟨l.toArray⟩) := by
  have hsz : (⟨l.toArray⟩ : ByteArray).size = l.length := rfl
  rw [P.logfmt_reader_skip.l0, hsz]
  rcases h with rfl | ⟨c, t, rfl, hc⟩
  · rw [if_pos (by rw [ByteArray.toList_eq])]
  · have hb : bt ⟨(c :: t).toArray⟩ 0 = (c.toNat : Int) := by
      have h' : ((0 : Int)).toNat < (⟨(c :: t).toArray⟩ : ByteArray).size := by show 0 < t.length + 1; omega
      rw [← bt_at _ (0 : Int) h']; rfl
    rw [if_neg (by rw [ByteArray.toList_eq]; exact List.cons_ne_nil _ _), if_pos (by simp), hb, if_neg (by omega)]
theorem skip_blank (k : Nat) (l : List UInt8) (h : l = [] ∨ ∃ c t, l = c :: t ∧ 32 < c.toNat) : P.logfmt_reader_skip.f (k + 2) ⟨(32 :: l).toArray⟩ = some (true, ⟨l.toArray⟩) := by
  have hsz : (⟨(32 :: l).toArray⟩ : ByteArray).size = l.length + 1 := rfl
  have hb : bt ⟨((32 : UInt8) :: l).toArray⟩ 0 = 32 := by
    have h' : ((0 : Int)).toNat < (⟨((32 : UInt8) :: l).toArray⟩ : ByteArray).size := by show 0 < l.length + 1; omega
    rw [← bt_at _ (0 : Int) h']; rfl
  have hx : (⟨((32 : UInt8) :: l).toArray⟩ : ByteArray).extract 1 (l.length + 1) = ⟨l.toArray⟩ := by
    refine bax_ext ?_
    rw [bax_extract]
    show (((32 : UInt8) :: l).take (l.length + 1)).drop 1 = l
    rw [List.take_of_length_le (by simp)]; rfl
  unfold P.logfmt_reader_skip.f
  rw [show k + 2 = (k + 1) + 1 from rfl, P.logfmt_reader_skip.l0, if_neg (by rw [ByteArray.toList_eq]; exact List.cons_ne_nil _ _), hsz, if_pos (by omega), hb, if_pos (by omega), if_pos (by omega), hx, skip_end _ _ _ h]
  congr 2
  exact decide_eq_true (by omega)

/-- Pairs: a letter, and a value. -/
def lineOf (its : List (UInt8 × List UInt8)) : List UInt8 := its.flatMap fun p => p.1 :: 61 :: (p.2 ++ [32])
def foldSet : List (UInt8 × List UInt8) → List Lab → Option (List Lab)
  | [], out => some out
  | p :: r, out => (P.labels_Set.f out ⟨[p.1].toArray⟩ ⟨p.2.toArray⟩).bind (foldSet r)
def itOk (p : UInt8 × List UInt8) : Prop := 97 ≤ p.1.toNat ∧ p.1.toNat ≤ 122 ∧ ∀ c ∈ p.2, plainB c = true
theorem clean_all : ∀ c : Fin 256, 97 ≤ c.val → c.val ≤ 122 → cleanP [UInt8.ofNat c.val] = [UInt8.ofNat c.val] ∧ plainB (UInt8.ofNat c.val) = true := by decide +kernel
theorem clean_letter (c : UInt8) (h1 : 97 ≤ c.toNat) (h2 : c.toNat ≤ 122) : cleanP [c] = [c] ∧ plainB c = true := by
  have := clean_all ⟨c.toNat, c.toNat_lt⟩ h1 h2
  have e : UInt8.ofNat c.toNat = c := by simp
  simp only [e] at this
  exact this
theorem lineOf_head : ∀ (its : List (UInt8 × List UInt8)), (∀ p ∈ its, itOk p) → lineOf its = [] ∨ ∃ c t, lineOf its = c :: t ∧ 32 < c.toNat
  | [], _ => .inl rfl
  | p :: r, h => .inr ⟨p.1, 61 :: (p.2 ++ [32]) ++ lineOf r, rfl, by have := (h p (by simp)).1; omega⟩
theorem parse_fold (kk : Nat) (hk : 2 ≤ kk) : ∀ (its : List (UInt8 × List UInt8)) (out r : List Lab) (n : Nat), (∀ p ∈ its, itOk p) → its.length < n → (lineOf its).length ≤ 1000000000 → foldSet its out = some r →
    P.parseLoop kk n out true ⟨(lineOf its).toArray⟩ = some (r, true)
  | [], out, r, n, _, hn, _, hf => by
    obtain ⟨n, rfl⟩ : ∃ m, n = m + 1 := ⟨n - 1, by omega⟩
    injection hf with hf
    subst hf
    rw [P.parseLoop, if_pos (by rw [ByteArray.toList_eq]; rfl)]
  | p :: its, out, r, n, hi, hn, hl, hf => by
    obtain ⟨n, rfl⟩ : ∃ m, n = m + 1 := ⟨n - 1, by omega⟩
    obtain ⟨kk, rfl⟩ : ∃ m, kk = m + 2 := ⟨kk - 2, by omega⟩
    obtain ⟨h1, h2, h3⟩ := hi p (by simp)
    obtain ⟨hc, hpl⟩ := clean_letter p.1 h1 h2
    have he : lineOf (p :: its) = p.1 :: 61 :: (p.2 ++ 32 :: lineOf its) := by
      show p.1 :: 61 :: (p.2 ++ [32]) ++ lineOf its = _
      simp
    rw [he] at hl ⊢
    simp only [List.length_cons, List.length_append] at hl
    obtain ⟨out2, hs, hf⟩ := Option.bind_eq_some_iff.1 hf
    have hcl : P.labels_Clean.f ⟨[p.1].toArray⟩ = some ⟨[p.1].toArray⟩ := by
      unfold P.labels_Clean.f
      rw [if_pos (by show 1 ≤ _; omega)]
      show some (ByteArray.mk (cleanP [p.1]).toArray) = _
      rw [hc]
    rw [P.parseLoop, if_neg (by rw [ByteArray.toList_eq]; exact List.cons_ne_nil _ _), pair_at _ p.1 p.2 (lineOf its) hpl h3 (by omega), Option.bind_some]
    simp only
    rw [if_pos trivial, if_pos trivial, hcl, Option.bind_some, hs, Option.bind_some, skip_blank _ _ (lineOf_head its (fun q hq => hi q (by simp [hq]))), Option.bind_some]
    exact parse_fold _ hk its out2 r n (fun q hq => hi q (by simp [hq])) (by simp at hn; omega) (by omega) hf
theorem parse_line (its : List (UInt8 × List UInt8)) (r : List Lab) (hi : ∀ p ∈ its, itOk p) (hl : (lineOf its).length ≤ 1000000000) (hf : foldSet its [] = some r) : P.logfmt_Parse.f ⟨(lineOf its).toArray⟩ = some (r, true) := by
  unfold P.logfmt_Parse.f
  have hsz : (⟨(lineOf its).toArray⟩ : ByteArray).size = (lineOf its).length := rfl
  have hlen : ∀ its : List (UInt8 × List UInt8), its.length ≤ (lineOf its).length := fun its => by
    induction its with
    | nil => simp [lineOf]
    | cons p its ih => show _ ≤ (p.1 :: 61 :: (p.2 ++ [32]) ++ lineOf its).length; simp; omega
  have := hlen its
  rw [hsz]
  unfold P.logfmt_reader_skip.f
  rw [show 3 * (lineOf its).length + 100 = (3 * (lineOf its).length + 99) + 1 from rfl, skip_end _ _ _ (lineOf_head its hi), Option.bind_some]
  exact parse_fold _ (by omega) its [] r _ hi (by omega) hl hf
end Go.Proofs.YtnmofpefofkoeaaGreatDoor
set_option linter.unusedVariables false
namespace Go.Proofs.YtnmofpefofkoeaaGreatDoor.P
open Go
def driftnetlaw16_LogfmtPlain.Pure : Prop := ∀ l0 : List ByteArray, l0.length ≤ maxLen → ∃ k, driftnetlaw16_LogfmtPlain.f k l0 = some true
end Go.Proofs.YtnmofpefofkoeaaGreatDoor.P
namespace Go.Proofs.YtnmofpefofkoeaaGreatDoor
open Go Go.RowKit Go.Lib Go.Proofs.YtnmofpefofkoeaaGreatDoorW.PrintWords Go.Proofs.YtnmofpefofkoeaaGreatDoorW.PrintLast Go.Proofs.YtnmofpefofkoeaaGreatDoorW.PrintMore Go.Proofs.YtnmofpefofkoeaaGreatDoor.P

theorem inOrder_total (l : List Lab) (hl : l.length ≤ 1000000) : ∀ (d i k : Nat), l.length - i = d → i ≤ l.length → d < k → ∃ b, P.labels_inOrder.l0 k l l (l.length : Int) (i : Int) = some b
  | 0, i, k, hd, hi, hk => by
    obtain ⟨k, rfl⟩ : ∃ m, k = m + 1 := ⟨k - 1, by omega⟩
    rw [P.labels_inOrder.l0, if_neg (by omega)]
    exact ⟨_, rfl⟩
  | d + 1, i, k, hd, hi, hk => by
    obtain ⟨k, rfl⟩ : ∃ m, k = m + 1 := ⟨k - 1, by omega⟩
    have hw : wrap64 ((i : Int) + 1) = ((i + 1 : Nat) : Int) := by unfold wrap64; omega
    have ih := inOrder_total l hl d (i + 1) k (by omega) (by omega) (by omega)
    rw [P.labels_inOrder.l0, if_pos (by omega), if_pos (by omega), if_pos (by omega), hw]
    split
    · exact ⟨_, rfl⟩
    · split
      · have hw2 : wrap64 ((i : Int) - 1) = (i : Int) - 1 := by unfold wrap64; omega
        rw [hw2, if_pos (by omega), if_pos (by omega)]
        split
        · exact ih
        · exact ⟨_, rfl⟩
      · exact ih
theorem set_total (l : List Lab) (hl : l.length ≤ 999999) (n v : ByteArray) : ∃ r, P.labels_Set.f l n v = some r ∧ r.length ≤ l.length + 1 := by
  obtain ⟨b, hb⟩ := inOrder_total l (by omega) l.length 0 (l.length + 1) (by omega) (by omega) (by omega)
  unfold P.labels_Set.f
  have hb2 : P.labels_inOrder.f (l.length + 1) l = some b := hb
  rw [if_pos hl, hb2, Option.bind_some]
  refine ⟨_, rfl, ?_⟩
  have hf := List.length_filter_le (keepB n) l
  split
  · unfold setP
    split
    · omega
    · simp only [List.length_append, List.length_cons, List.length_take, List.length_drop]; omega
  · simp

theorem same_loop (l : List Lab) (hl : l.length ≤ 1000000) : ∀ (d i k : Nat), l.length - i = d → i ≤ l.length → d < k → P.driftnetlaw16_same.l0 k l l (i : Int) = some true
  | 0, i, k, hd, hi, hk => by
    obtain ⟨k, rfl⟩ : ∃ m, k = m + 1 := ⟨k - 1, by omega⟩
    rw [P.driftnetlaw16_same.l0, if_neg (by omega)]
  | d + 1, i, k, hd, hi, hk => by
    obtain ⟨k, rfl⟩ : ∃ m, k = m + 1 := ⟨k - 1, by omega⟩
    have hw : wrap64 ((i : Int) + 1) = ((i + 1 : Nat) : Int) := by unfold wrap64; omega
    rw [P.driftnetlaw16_same.l0, if_pos (by omega), if_pos (by omega), if_pos (by omega), hw, if_neg (by simp)]
    exact same_loop l hl d (i + 1) k (by omega) (by omega) (by omega)
theorem same_self (l : List Lab) (hl : l.length ≤ 1000000) (k : Nat) (hk : l.length < k) : P.driftnetlaw16_same.f k l l = some true := by
  unfold P.driftnetlaw16_same.f
  rw [if_pos rfl]
  exact same_loop l hl l.length 0 k (by omega) (by omega) hk

theorem foldSet_snoc : ∀ (a : List (UInt8 × List UInt8)) (p : UInt8 × List UInt8) (out : List Lab), foldSet (a ++ [p]) out = (foldSet a out).bind fun o => P.labels_Set.f o ⟨[p.1].toArray⟩ ⟨p.2.toArray⟩
  | [], p, out => by
    show (P.labels_Set.f out ⟨[p.1].toArray⟩ ⟨p.2.toArray⟩).bind (foldSet []) = P.labels_Set.f out ⟨[p.1].toArray⟩ ⟨p.2.toArray⟩
    cases P.labels_Set.f out ⟨[p.1].toArray⟩ ⟨p.2.toArray⟩ <;> rfl
  | q :: a, p, out => by
    show (P.labels_Set.f out ⟨[q.1].toArray⟩ ⟨q.2.toArray⟩).bind (foldSet (a ++ [p])) = ((P.labels_Set.f out ⟨[q.1].toArray⟩ ⟨q.2.toArray⟩).bind (foldSet a)).bind _
    rw [Option.bind_assoc]
    congr 1
    funext o
    exact foldSet_snoc a p o

/-- What of a text goes into the line. -/
def filP (s : ByteArray) : List UInt8 := (s.data.toList.take 50).filter plainB
def itsP (l0 : List ByteArray) (n : Nat) : List (UInt8 × List UInt8) := (List.range n).map fun i => (UInt8.ofNat (97 + i), filP (l0.getD i ByteArray.empty))
theorem itsP_ok (l0 : List ByteArray) (n : Nat) (hn : n ≤ 20) : ∀ p ∈ itsP l0 n, itOk p := by
  intro p hp
  obtain ⟨i, hi, rfl⟩ := List.mem_map.1 hp
  have := List.mem_range.1 hi
  refine ⟨?_, ?_, fun c hc => (List.mem_filter.1 hc).2⟩
  · simp; omega
  · simp; omega
theorem filP_len (s : ByteArray) : (filP s).length ≤ 50 := by
  have := List.length_filter_le plainB (s.data.toList.take 50)
  have h2 : (s.data.toList.take 50).length ≤ 50 := by rw [List.length_take]; omega
  unfold filP; omega
theorem lineOf_len : ∀ (its : List (UInt8 × List UInt8)), (∀ p ∈ its, p.2.length ≤ 50) → (lineOf its).length ≤ 53 * its.length
  | [], _ => by simp [lineOf]
  | p :: its, h => by
    show (p.1 :: 61 :: (p.2 ++ [32]) ++ lineOf its).length ≤ _
    have := lineOf_len its (fun q hq => h q (by simp [hq]))
    have h2 := h p (by simp)
    simp; omega
theorem itsP_line (l0 : List ByteArray) (n : Nat) (hn : n ≤ 20) : (lineOf (itsP l0 n)).length ≤ 1060 := by
  have := lineOf_len (itsP l0 n) (fun p hp => by obtain ⟨i, _, rfl⟩ := List.mem_map.1 hp; exact filP_len _)
  have h2 : (itsP l0 n).length = n := by simp [itsP]
  omega

theorem bax_append (a b : ByteArray) : (a ++ b).data.toList = a.data.toList ++ b.data.toList := by rw [ByteArray.data_append, Array.toList_append]
theorem bax_size (a b : ByteArray) : (a ++ b).size = a.size + b.size := by simp
theorem j3_false (k : Nat) (l0 : List ByteArray) (x3 : ByteArray) (x4 : List Lab) (x5 : Int) (x6 : ByteArray) (x7 : Int) :
    P.driftnetlaw16_LogfmtPlain.j3 (k + 1) l0 x3 x4 x5 x6 x7 false = P.driftnetlaw16_LogfmtPlain.j3 (k + 1) l0 x3 x4 x5 x6 0 false := by
  rw [P.driftnetlaw16_LogfmtPlain.j3, P.driftnetlaw16_LogfmtPlain.j3, if_neg (by decide), if_neg (by decide)]

theorem round_at (l0 : List ByteArray) (x3 : ByteArray) (x4 : List Lab) (n : Nat) (hn : n < l0.length) (s : ByteArray) (hs : rdOf ByteArray.empty l0 (n : Int) = s) (i k : Nat) (x6 : ByteArray) (h1 : i < s.size) (h2 : i < 50) (hx : x6.size ≤ 50) (c : UInt8) (hb : bt s (i : Int) = (c.toNat : Int)) (hex : s.extract i (i + 1) = ⟨[c].toArray⟩) :
    P.driftnetlaw16_LogfmtPlain.l1 (k + 2) l0 x3 x4 (n : Int) x6 (i : Int) = P.driftnetlaw16_LogfmtPlain.l1 k l0 x3 x4 (n : Int) (if plainB c = true then x6 ++ ⟨[c].toArray⟩ else x6) ((i + 1 : Nat) : Int) := by
  have hw : wrap64 ((i : Int) + 1) = ((i + 1 : Nat) : Int) := by unfold wrap64; omega
  have q1 : (0 : Int) ≤ (n : Int) := by omega
  have q2 : (n : Int) < (l0.length : Int) := by omega
  have q3 : (i : Int) < (s.size : Int) := by omega
  have q4 : decide ((i : Int) < 50) = true := decide_eq_true (by omega)
  have q5 : (0 : Int) ≤ (i : Int) := by omega
  have q6 : (i : Int) ≤ ((i + 1 : Nat) : Int) := by omega
  have q7 : ((i + 1 : Nat) : Int) ≤ (s.size : Int) := by omega
  have q8 : x6.size + (⟨[c].toArray⟩ : ByteArray).size ≤ 9223372036854775807 := by
    have : (⟨[c].toArray⟩ : ByteArray).size = 1 := rfl
    rw [this]; omega
  have e1 : P.driftnetlaw16_LogfmtPlain.l1 (k + 2) l0 x3 x4 (n : Int) x6 (i : Int) = P.driftnetlaw16_LogfmtPlain.j3 (k + 1) l0 x3 x4 (n : Int) x6 (i : Int) true := by
    rw [P.driftnetlaw16_LogfmtPlain.l1, if_pos q1, if_pos q2, hs, if_pos q3, q4]
  rw [e1, P.driftnetlaw16_LogfmtPlain.j3, if_pos rfl, if_pos q1, if_pos q2, if_pos q5, hs, if_pos q3, hb, hw]
  by_cases h1 : (c.toNat : Int) > 32
  · rw [if_pos h1]
    by_cases h2 : (c.toNat : Int) = 61
    · have hp : plainB c = false := by unfold plainB; rw [show (c.toNat == 61) = true from beq_iff_eq.2 (by omega)]; simp
      rw [if_pos h2, hp, if_neg (show ¬ (false = true) by decide)]
    · rw [if_neg h2]
      by_cases h3 : (c.toNat : Int) = 34
      · have hp : plainB c = false := by unfold plainB; rw [show (c.toNat == 34) = true from beq_iff_eq.2 (by omega)]; simp
        rw [if_pos h3, hp, if_neg (show ¬ (false = true) by decide)]
      · have hp : plainB c = true := by
          unfold plainB
          rw [show (c.toNat == 61) = false from beq_eq_false_iff_ne.2 (by omega), show (c.toNat == 34) = false from beq_eq_false_iff_ne.2 (by omega), show decide (c.toNat ≤ 32) = false from decide_eq_false (by omega)]; rfl
        rw [if_neg h3, if_pos q6, if_pos q7, Int.toNat_natCast, Int.toNat_natCast, hex, if_pos q8, hp, if_pos rfl]
  · have hp : plainB c = false := by unfold plainB; rw [show decide (c.toNat ≤ 32) = true from decide_eq_true (by omega)]; rfl
    rw [if_neg h1, hp, if_neg (show ¬ (false = true) by decide)]
theorem inner (l0 : List ByteArray) (x3 : ByteArray) (x4 : List Lab) (n : Nat) (hn : n < l0.length) (s : ByteArray) (hs : rdOf ByteArray.empty l0 (n : Int) = s) : ∀ (d i m : Nat) (x6 : ByteArray), min 50 s.size - i = d → i ≤ min 50 s.size → x6.size ≤ i →
    P.driftnetlaw16_LogfmtPlain.l1 (m + 2 * d + 2) l0 x3 x4 (n : Int) x6 (i : Int) = P.driftnetlaw16_LogfmtPlain.j3 (m + 1) l0 x3 x4 (n : Int) (x6 ++ ⟨(((s.data.toList.take 50).drop i).filter plainB).toArray⟩) 0 false
  | 0, i, m, x6, hd, hi, hx => by
    have hll : s.data.toList.length = s.size := (Lib.size_eq s).symm
    have hdr : (s.data.toList.take 50).drop i = [] := List.drop_eq_nil_of_le (by rw [List.length_take]; omega)
    have he : x6 ++ (⟨(([] : List UInt8).filter plainB).toArray⟩ : ByteArray) = x6 := bax_ext (by rw [bax_append]; simp)
    have q1 : (0 : Int) ≤ (n : Int) := by omega
    have q2 : (n : Int) < (l0.length : Int) := by omega
    rw [hdr, he, show m + 2 * 0 + 2 = (m + 1) + 1 by omega, P.driftnetlaw16_LogfmtPlain.l1, if_pos q1, if_pos q2, hs]
    by_cases h1 : (i : Int) < (s.size : Int)
    · rw [if_pos h1, show decide ((i : Int) < 50) = false from decide_eq_false (by omega), j3_false]
    · rw [if_neg h1, j3_false]
  | d + 1, i, m, x6, hd, hi, hx => by
    have hll : s.data.toList.length = s.size := (Lib.size_eq s).symm
    have hil : i < (s.data.toList.take 50).length := by rw [List.length_take]; omega
    have hdr : (s.data.toList.take 50).drop i = (s.data.toList.take 50)[i] :: (s.data.toList.take 50).drop (i + 1) := List.drop_eq_getElem_cons hil
    obtain ⟨c, t, e, hb, et⟩ := bt_drop s i (by omega)
    have hc : (s.data.toList.take 50)[i] = c := by
      rw [List.getElem_take]
      have := List.drop_eq_getElem_cons (l := s.data.toList) (i := i) (by omega)
      rw [e] at this
      injection this with h1 _
      exact h1.symm
    have hex : s.extract i (i + 1) = ⟨[c].toArray⟩ := by
      refine bax_ext ?_
      rw [bax_extract, List.drop_take, e]
      rw [show i + 1 - i = 1 by omega]; rfl
    have hy : (if plainB c = true then x6 ++ ⟨[c].toArray⟩ else x6).size ≤ i + 1 := by
      split
      · rw [bax_size]; show x6.size + 1 ≤ _; omega
      · omega
    have ih := inner l0 x3 x4 n hn s hs d (i + 1) m _ (by omega) (by omega) hy
    rw [show m + 2 * (d + 1) + 2 = (m + 2 * d + 2) + 2 by omega, round_at l0 x3 x4 n hn s hs i (m + 2 * d + 2) x6 (by omega) (by omega) (by omega) c hb hex, ih, hdr, hc, List.filter_cons]
    congr 1
    by_cases hp : plainB c = true
    · rw [if_pos hp, if_pos hp]
      refine bax_ext ?_
      rw [bax_append, bax_append, bax_append]
      simp
    · rw [if_neg hp, if_neg hp]

theorem name_at (n : Nat) (hn : n < 20) : strOfNums [(wrap64 (97 + (n : Int))) % 256] = ⟨[UInt8.ofNat (97 + n)].toArray⟩ := by
  have hw : (wrap64 (97 + (n : Int))) % 256 = ((97 + n : Nat) : Int) := by unfold wrap64; omega
  refine bax_ext ?_
  rw [hw]
  rfl

theorem outer (l0 : List ByteArray) : ∀ (d n m : Nat) (W : List Lab), min 20 l0.length - n = d → n ≤ min 20 l0.length → foldSet (itsP l0 n) [] = some W → W.length ≤ n →
    P.driftnetlaw16_LogfmtPlain.l0 (m + 110 * d + 60) l0 ⟨(lineOf (itsP l0 n)).toArray⟩ W (n : Int) = some true
  | 0, n, m, W, hd, hn, hf, hW => by
    have hline := itsP_line l0 n (by omega)
    have fin : P.driftnetlaw16_LogfmtPlain.j1 (m + 59) l0 ⟨(lineOf (itsP l0 n)).toArray⟩ W (n : Int) false = some true := by
      rw [show m + 59 = (m + 58) + 1 by omega, P.driftnetlaw16_LogfmtPlain.j1, if_neg (by decide), parse_line (itsP l0 n) W (itsP_ok l0 n (by omega)) (by omega) hf, Option.bind_some]
      simp only
      rw [if_pos trivial, same_self W (by omega) (m + 58) (by omega)]
      rfl
    rw [show m + 110 * 0 + 60 = (m + 59) + 1 by omega, P.driftnetlaw16_LogfmtPlain.l0]
    by_cases h1 : (n : Int) < (l0.length : Int)
    · rw [if_pos h1, show decide ((n : Int) < 20) = false from decide_eq_false (by omega)]; exact fin
    · rw [if_neg h1]; exact fin
  | d + 1, n, m, W, hd, hn, hf, hW => by
    have hline := itsP_line l0 n (by omega)
    obtain ⟨s, hs⟩ : ∃ s, rdOf ByteArray.empty l0 (n : Int) = s := ⟨_, rfl⟩
    have hs2 : l0.getD n ByteArray.empty = s := hs
    have hfl := filP_len s
    obtain ⟨t, ht, htl⟩ := set_total W (by omega) ⟨[UInt8.ofNat (97 + n)].toArray⟩ ⟨(filP s).toArray⟩
    have hi : itsP l0 (n + 1) = itsP l0 n ++ [(UInt8.ofNat (97 + n), filP s)] := by
      unfold itsP
      rw [List.range_succ, List.map_append, List.map_cons, List.map_nil, hs2]
    have hf2 : foldSet (itsP l0 (n + 1)) [] = some t := by rw [hi, foldSet_snoc, hf, Option.bind_some]; exact ht
    have hl2 : lineOf (itsP l0 (n + 1)) = lineOf (itsP l0 n) ++ (UInt8.ofNat (97 + n) :: 61 :: (filP s ++ [32])) := by
      rw [hi]; unfold lineOf; rw [List.flatMap_append]; simp
    have hD : min 50 s.size ≤ 50 := by omega
    have hin := inner l0 ⟨(lineOf (itsP l0 n)).toArray⟩ W n (by omega) s hs (min 50 s.size) 0 (m + 110 * d + 166 - 2 * min 50 s.size) ⟨#[]⟩ (by omega) (by omega) (by decide)
    rw [show m + 110 * d + 166 - 2 * min 50 s.size + 2 * min 50 s.size + 2 = m + 110 * d + 168 by omega, List.drop_zero, show (⟨#[]⟩ : ByteArray) ++ ⟨((s.data.toList.take 50).filter plainB).toArray⟩ = ⟨(filP s).toArray⟩ from bax_ext (by rw [bax_append]; rfl)] at hin
    have ih := outer l0 d (n + 1) (m + 106 - 2 * min 50 s.size) t (by omega) (by omega) hf2 (by omega)
    have hw : wrap64 ((n : Int) + 1) = ((n + 1 : Nat) : Int) := by unfold wrap64; omega
    have hx : ((((⟨(lineOf (itsP l0 n)).toArray⟩ : ByteArray) ++ ⟨[UInt8.ofNat (97 + n)].toArray⟩) ++ ⟨#[61]⟩) ++ ⟨(filP s).toArray⟩) ++ ⟨#[32]⟩ = ⟨(lineOf (itsP l0 (n + 1))).toArray⟩ := by
      refine bax_ext ?_
      rw [bax_append, bax_append, bax_append, bax_append]
      show (((lineOf (itsP l0 n) ++ [UInt8.ofNat (97 + n)]) ++ [61]) ++ filP s) ++ [32] = lineOf (itsP l0 (n + 1))
      rw [hl2]; simp
    have hz0 : (⟨(lineOf (itsP l0 n)).toArray⟩ : ByteArray).size ≤ 1060 := hline
    have hz1 : (⟨[UInt8.ofNat (97 + n)].toArray⟩ : ByteArray).size = 1 := rfl
    have hz2 : (⟨(filP s).toArray⟩ : ByteArray).size ≤ 50 := hfl
    have hz3 : (⟨#[61]⟩ : ByteArray).size = 1 := rfl
    rw [show m + 110 * (d + 1) + 60 = (m + 110 * d + 169) + 1 by omega, P.driftnetlaw16_LogfmtPlain.l0, if_pos (by omega), show decide ((n : Int) < 20) = true from decide_eq_true (by omega), show m + 110 * d + 169 = (m + 110 * d + 168) + 1 by omega, P.driftnetlaw16_LogfmtPlain.j1, if_pos rfl,
      show (0 : Int) = ((0 : Nat) : Int) from rfl, hin, P.driftnetlaw16_LogfmtPlain.j3, if_neg (by decide), Option.bind_some, name_at n (by omega), if_pos (by omega), if_pos (by rw [bax_size]; omega), if_pos (by rw [bax_size, bax_size]; omega), if_pos (by rw [bax_size, bax_size, bax_size]; omega), ht, Option.bind_some, hx, hw,
      show m + 110 * d + 166 - 2 * min 50 s.size = m + 106 - 2 * min 50 s.size + 110 * d + 60 by omega]
    exact ih

theorem works_3000 : P.driftnetlaw16_works.f 3000 = some true := by decide +kernel
theorem logfmtPlain_pure : P.driftnetlaw16_LogfmtPlain.Pure := by
  intro l0 hl
  refine ⟨3000, ?_⟩
  unfold P.driftnetlaw16_LogfmtPlain.f
  rw [works_3000, Option.bind_some, if_pos rfl]
  have := outer l0 (min 20 l0.length) 0 (2940 - 110 * min 20 l0.length) [] (by omega) (by omega) rfl (Nat.le_refl _)
  rw [show 2940 - 110 * min 20 l0.length + 110 * min 20 l0.length + 60 = 3000 by omega] at this
  exact this
end Go.Proofs.YtnmofpefofkoeaaGreatDoor
namespace Go.Proofs.YtnmofpefofkoeaaGreatDoor.P
open Go Go.RowKit Go.Proofs.YtnmofpefofkoeaaGreatDoorW.PrintWords
theorem driftnetlaw16_LogfmtPlain.walk (PU : driftnetlaw16_LogfmtPlain.Pure) (A0 : Option Addr) (c0 : Nat) (l0 : List ByteArray) (w : World) (hG : Aside0 (G w)) (hr0 : Kd.C Kd.string w A0 l0.length l0) (hl : l0.length ≤ c0 ∧ l0.length ≤ maxLen) :
    Calls Tryz.prog 4 #[.slice A0 l0.length c0] w fun e w' => e = .returned (.bool true) ∧ Below w.heap.size w w' := by
  obtain ⟨k, h⟩ := PU l0 hl.2
  exact driftnetlaw16_LogfmtPlain.calls k A0 c0 l0 true w hr0 hl.1 hG h
end Go.Proofs.YtnmofpefofkoeaaGreatDoor.P
namespace Go.Proofs.YtnmofpefofkoeaaGreatDoor.logfmtPlain
open Go Go.ChangeShapes Go.WideShapes Go.ChangeAt Go.RowKit
open Go.ChangeMaps (open_string shut_string)
set_option linter.unusedVariables false
theorem own : ownKnob Tryz.prog.godebug = none := by kernel_rfl
theorem laidOut : laidOutB Tryz.prog = true := by kernel_rfl
set_option maxRecDepth 100000 in
theorem lifted (PU : P.driftnetlaw16_LogfmtPlain.Pure) (os : Os) (started : os.Started) (H : Type) (enc : TypeId × Value → H) :
    ReturnsInHanded {} Tryz.checked os 4 .any (fun w args => (Rows.logfmtPlainSpec.pre enc Tryz.prog Tryz.f4 Rows.logfmtPlainRow.domain false w args ∧ laidMetH Tryz.prog Rows.logfmtPlainRow.laid w) ∧ sizedMet enc Tryz.prog Tryz.f4 (OpenSpec.ofChange Rows.logfmtPlainSpec) false w args)
      (Rows.logfmtPlainSpec.post enc Tryz.prog Tryz.f4 false true false false) := by
  refine returnsInHanded_of_change_and (C := Tryz.checked) (X := fun w _ => laidMetH Tryz.prog laidL w) (fun _ _ _ hh h => h.of_heap hh) own started (by kernel_rfl) Tryz.func4
    (ChangeSpec.witness_shaped (enc := enc) (C := Tryz.checked) (os := os) (X := fun w _ => laidMetH Tryz.prog laidL w) false (world0 os) #[.slice none 0 0] 8 (world0_os _)
      (World.shaped_of_ZipB (by kernel_rfl) (by kernel_rfl)) (by kernel_rfl) (by kernel_rfl) (by kernel_rfl) (world0_met os _)) ?_
  intro W base args ds gs before hval0 hW hcnd hsz0 hL _
  have hsz : (DataW.weightsEach Tryz.prog (Tryz.f4.params.toList ++ Rows.logfmtPlainSpec.plain.varTypes Tryz.prog) (ds ++ gs)).all (· ≤ reachBytes) = true := hsz0
  have hval : ∀ (j : Nat) t v, Tryz.f4.params[j]? = some t → args[j]? = some v → Value.okWide Tryz.prog W .any base t v := hval0
  have hW' := hW
  obtain ⟨p, q, hA0, hV, rfl, hfz, hnd⟩ := hW
  have hA : DataW.TrodAll enc Tryz.prog W 0 (fun _ => true) true Tryz.f4.params.toList args.toList ds p := hA0
  rw [Tryz.params4] at hA hval hsz
  obtain ⟨v0, vs0, d0, ds0, p0, q0, hargs, rfl, rfl, h0, r0⟩ := trodAll_cons hA
  obtain ⟨rfl, rfl, rfl⟩ := trodAll_nil r0
  obtain rfl : args = #[v0] := by cases args; simp_all
  obtain ⟨rfl, rfl⟩ := trodVars_none hV
  obtain ⟨a0, len0, cap0, rfl⟩ := okWide_slice Tryz.underlying28 (hval 0 28 v0 rfl rfl)
  have k0 := h0
  have lt0 : ∀ x ∈ p0, x.block < W.heap.size := by obtain ⟨m, hm⟩ := k0; exact DataW.trod_lt m _ _ _ hm
  obtain ⟨z0, y0, x0, w0⟩ : ∃ ss : List ByteArray, ss.length = len0 ∧ (ss.length ≤ cap0 ∧ ss.length ≤ maxLen) ∧ Go.Proofs.YtnmofpefofkoeaaGreatDoorW.PrintWords.Kd.C Go.Proofs.YtnmofpefofkoeaaGreatDoorW.PrintWords.Kd.string W a0 ss.length ss := by
    obtain ⟨fuel, hf⟩ := h0
    rcases open_strings Tryz.underlying28 Tryz.underlying9 (by kernel_rfl) hf with ⟨hcs, _⟩ | ⟨x, l, c, ss, hcs, _, hl, hm, hz, _, hcell, _⟩
    · simp [Value.cells] at hcs
      obtain ⟨rfl, rfl, rfl⟩ := hcs
      exact ⟨[], rfl, ⟨Nat.le_refl _, Nat.zero_le _⟩, Go.Proofs.YtnmofpefofkoeaaGreatDoorW.PrintWords.Kd.C_nil _ _⟩
    · simp [Value.cells] at hcs
      obtain ⟨rfl, rfl, rfl⟩ := hcs
      have hz2 : len0 ≤ ss.length := by rw [hz]; split <;> omega
      have hlt : (ss.take len0).length = len0 := by rw [List.length_take]; omega
      exact ⟨ss.take len0, hlt, ⟨by omega, by omega⟩, rfl, (by rw [hlt]; exact Nat.le_trans hl hm), fun _ => ⟨_, rfl, fun j p hj => by
        have hjl := (List.getElem?_eq_some_iff.1 hj).1
        rw [hlt] at hjl
        refine ⟨[.string p], rfl, rfl, fun i u hu => ?_⟩
        have hi : i = 0 := by have := (List.getElem?_eq_some_iff.1 hu).1; simp at this; omega
        subst hi
        simp at hu
        subst hu
        have hp : ss.getD j ByteArray.empty = p := by
          rw [List.getElem?_take] at hj
          rw [if_pos hjl] at hj
          rw [List.getD_eq_getElem?_getD, hj]; rfl
        have := hcell j (by omega)
        rw [hp] at this
        show W.cell? (x.add (j * 1 + 0)) = _
        rw [Nat.mul_one, Nat.add_zero]
        exact this⟩⟩
  subst y0
  clear hA0 hval0 hsz0 hsz
  refine (P.driftnetlaw16_LogfmtPlain.walk PU a0 cap0 z0 W ⟨G_of_laid hL⟩ w0 x0).mono fun e W' ⟨he, bel⟩ => ?_
  subst he
  exact ⟨_, rfl, _, _, _, [], _, [], hW', trodAll_mk1 (shut_bool Tryz.underlying4 _), (trodAll_cons_mk (Below.trod laidOut (by kernel_rfl) (of_decide_eq_true (by kernel_rfl)) k0 bel lt0) trodAll_mk0), rfl, bel.frame _, fun h => by cases h⟩
theorem over (PU : P.driftnetlaw16_LogfmtPlain.Pure) : Rows.LogfmtPlainSaid :=
  OpenClaim.holds_of_wide 4 Tryz.f4 rfl rfl rfl rfl rfl rfl rfl ⟨rfl, rfl, rfl, rfl, rfl⟩ rfl rfl rfl rfl rfl (by kernel_rfl) Tryz.func4 (by kernel_rfl)
    (of_decide_eq_true (by kernel_rfl)) (by unfold Func.isWrapper; first | (rw [if_pos (by decide +kernel)]; kernel_rfl) | (rw [if_neg (by decide +kernel)]; exact ⟨rfl, rfl⟩))
    (fun os started H enc _ => lifted PU os started H enc)
theorem card_of (PU : P.driftnetlaw16_LogfmtPlain.Pure) : Rows.LogfmtPlainCardSaid :=
  Claim7.holds_tied_plain_at .later [] Rows.logfmtPlainCard.laidKinds true Rows.logfmtPlainCard.stood.harness Rows.logfmtPlainCard.stood.looks (over PU) (fun _ h => by cases h) (by kernel_rfl) (fun _ h => by cases h) logfmtPlain_row_tie rfl ⟨rfl, rfl⟩ (by kernel_rfl) rfl
    (fun f fn hf hfn => by
      obtain rfl : f = 4 := Option.some.inj ((show Tryz.prog.funcNamed "driftnet/driftnetlaw16.LogfmtPlain" = some 4 by kernel_rfl).symm.trans hf) |>.symm
      obtain rfl : fn = Tryz.f4 := (Option.some.inj (Tryz.func4.symm.trans hfn)).symm
      exact ⟨by kernel_rfl, fun j t ht => by
        rw [Tryz.params4] at ht
        have hm : t ∈ [28] := by simpa using Array.mem_of_getElem? ht
        have hall : ([28].all fun u => !Tryz.prog.wantsStandIn u) = true := by kernel_rfl
        exact (show Tryz.prog.wantsStandIn t = false by simpa using List.all_eq_true.1 hall t hm)⟩)
    (by kernel_rfl)
end Go.Proofs.YtnmofpefofkoeaaGreatDoor.logfmtPlain
namespace Go.Proofs.YtnmofpefofkoeaaGreatDoor
open Go
theorem logfmtPlain_card : Rows.LogfmtPlainCardSaid := logfmtPlain.card_of logfmtPlain_pure
#print axioms logfmtPlain_card
end Go.Proofs.YtnmofpefofkoeaaGreatDoor
