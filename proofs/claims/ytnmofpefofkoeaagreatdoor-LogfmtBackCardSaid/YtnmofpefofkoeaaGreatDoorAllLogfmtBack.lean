/- LogfmtBack: a line of pairs, their names cleaned, their values in quotes, blanks between them, tells just these: its tied card. No condition. -/
import Derived.Test.YtnmofpefofkoeaaGreatDoorRows
import Derived.Test.YtnmofpefofkoeaaGreatDoorG
import Derived.Test.YtnmofpefofkoeaaGreatDoorEscape
import Derived.ProofKit
import Derived.LaidMore
import Derived.Lay
import Derived.PinnedBridge
import Derived.Lib.LaidIn
import Derived.Lib.LaidU8
import Derived.Lib.LaidCase
import Derived.Deep.DeepLaidRun
import Derived.Test.YtnmofpefofkoeaaGreatDoorSet
import Derived.Test.YtnmofpefofkoeaaGreatDoorFRef5M
import Derived.Test.YtnmofpefofkoeaaGreatDoorFTwoM
import Derived.Test.YtnmofpefofkoeaaGreatDoorByName
import Derived.Deep.LoopGhost
import Derived.Deep.RegionWith
import Derived.BigRegion
import Derived.Test.YtnmofpefofkoeaaGreatDoorParse
import Derived.Test.YtnmofpefofkoeaaGreatDoorDecM
import Derived.Test.YtnmofpefofkoeaaGreatDoorFDriftnetlaw16LogfmtBack
import Derived.Test.YtnmofpefofkoeaaGreatDoorCards
import Derived.Test.YtnmofpefofkoeaaGreatDoorTie
import Derived.WalkKit
import Derived.OpenShut
import Derived.ShutString
import Derived.ChangeOld
import Derived.Below
import Derived.SizedLaws
import Derived.SevenTiedAt
import Derived.Stop.Joined
import Derived.SliceStrings
import Derived.Deep.SlicePairs
import Derived.ChangeSlices
set_option linter.unusedVariables false
namespace Go.Proofs.YtnmofpefofkoeaaGreatDoor
open Go Go.RowKit Go.Maps Go.WideElems Go.WideMaps Go.Lib

def laidL : List (String × DataW Unit) := [("math/bits.deBruijn32tab", Rows.laid_math_bits_deBruijn32tab), ("math/bits.deBruijn64tab", Rows.laid_math_bits_deBruijn64tab), ("internal/strconv.uint64pow10", Rows.laid_internal_strconv_uint64pow10), ("unicode/utf8.acceptRanges", Rows.laid_unicode_utf8_acceptRanges), ("strconv.ErrRange", Rows.laid_strconv_ErrRange), ("strconv.ErrSyntax", Rows.laid_strconv_ErrSyntax), ("driftnet/quote.escapes", Rows.laid_driftnet_quote_escapes), ("driftnet/quote.coded", Rows.laid_driftnet_quote_coded), ("unicode.CaseRanges", Rows.laid_unicode_CaseRanges), ("unicode/utf8.first", Rows.laid_unicode_utf8_first)]

theorem u8x : U8Extra Tryz.prog Tryz.lays160_ren := ⟨by kernel_rfl, by kernel_rfl, by kernel_rfl, by kernel_rfl, by kernel_rfl, by kernel_rfl, by kernel_rfl⟩
theorem casex : CaseExtra Tryz.prog Tryz.lays204_ren := ⟨by kernel_rfl, by kernel_rfl, by kernel_rfl, by kernel_rfl, by kernel_rfl, by kernel_rfl⟩
theorem accept_eq : (Rows.laid_unicode_utf8_acceptRanges : DataW Unit) = Lib.acceptData := by kernel_rfl

set_option maxRecDepth 100000 in
theorem holds_of_reads {K E g T : Nat} {q : IntKind} {name : String} {D : DataW Unit} {W : World} (h : Lib.VarReads Tryz.prog W name D) (hg : Tryz.prog.globalNamed name = some g) (hy : (Tryz.prog.globals[g]?).map (·.type) = some T)
    (ht : Tryz.prog.underlying T = some (.map K E)) (he : Tryz.prog.underlying E = some (.int q)) (hne : ∃ l, D = .map l) : HoldsMap Tryz.prog K E g D W := by
  obtain ⟨g', t, cs, fuel, p, hg', ht', hv, hd⟩ := h
  obtain rfl := Option.some.inj (hg.symm.trans hg')
  obtain rfl := Option.some.inj (hy.symm.trans ht')
  rcases open_map ht hd with ⟨_, hx⟩ | ⟨bm, es, clock, mm, rfl, hcs, hb, _, F, hx⟩
  · obtain ⟨l, rfl⟩ := hne
    simp at hx
  simp only [Prod.mk.injEq] at hx
  have hcell : W.cell? ⟨g, 0, none⟩ = some (.map (some bm)) := by
    have := World.var?_cell hg hv 0
    rw [Array.eq_one_of_toList hcs] at this
    simpa using this
  refine ⟨bm, es.size, hcell, ?_⟩
  have := World.ownsMap_of_fit (R := plainElem Tryz.prog E) hb F (fun x _ z hz => elemAt_plainElem_int he hz)
  rw [← hx.1] at this
  exact this

set_option maxRecDepth 100000 in
theorem G_of_laid {W : World} (h : laidMetH Tryz.prog laidL W) : G W := by
  rw [MakeChecks.laidMetH_plain _ _ _ (by kernel_rfl)] at h
  have r := fun {n : String} {d : DataW Unit} (hm : (n, d) ∈ laidL) => Lib.laidMet.reads h hm
  refine ⟨?_, ?_, ?_, ?_⟩
  · have h1 := r (n := "unicode/utf8.first") (d := Rows.laid_unicode_utf8_first) (by simp [laidL])
    have h2 := r (n := "unicode/utf8.acceptRanges") (d := Rows.laid_unicode_utf8_acceptRanges) (by simp [laidL])
    rw [show Rows.laid_unicode_utf8_first = Lib.firstData from Pinned.utf8First_eq] at h1
    rw [accept_eq] at h2
    exact utf8Tabs_of_reads (ρ := Tryz.lays160_ren) { Tryz.lays160 with } u8x h1 h2
  · have h1 := r (n := "unicode.CaseRanges") (d := Rows.laid_unicode_CaseRanges) (by simp [laidL])
    rw [show Rows.laid_unicode_CaseRanges = Lib.caseData from Pinned.caseRanges_eq] at h1
    exact caseVar_of_reads (ρ := Tryz.lays204_ren) { Tryz.lays204 with } (by kernel_rfl) casex h1
  · exact holds_of_reads (T := 115) (q := .u8) (r (n := "driftnet/quote.escapes") (d := Rows.laid_driftnet_quote_escapes) (by simp [laidL])) (by kernel_rfl) (by kernel_rfl) Tryz.underlying115 Tryz.underlying5 ⟨_, rfl⟩
  · exact holds_of_reads (T := 116) (q := .i64) (r (n := "driftnet/quote.coded") (d := Rows.laid_driftnet_quote_coded) (by simp [laidL])) (by kernel_rfl) (by kernel_rfl) Tryz.underlying116 Tryz.underlying3 ⟨_, rfl⟩

end Go.Proofs.YtnmofpefofkoeaaGreatDoor
set_option linter.unusedVariables false
namespace Go.Proofs.YtnmofpefofkoeaaGreatDoor
open Go Go.RowKit

def greatN : List String := ["unicode.CaseRanges", "unicode/utf8.first"]
def greatL : List (String × DataW Unit) := [("unicode.CaseRanges", Rows.laid_unicode_CaseRanges), ("unicode/utf8.first", Rows.laid_unicode_utf8_first)]
def smallL : List (String × DataW Unit) := [("math/bits.deBruijn32tab", Rows.laid_math_bits_deBruijn32tab), ("math/bits.deBruijn64tab", Rows.laid_math_bits_deBruijn64tab), ("internal/strconv.uint64pow10", Rows.laid_internal_strconv_uint64pow10), ("unicode/utf8.acceptRanges", Rows.laid_unicode_utf8_acceptRanges), ("strconv.ErrRange", Rows.laid_strconv_ErrRange), ("strconv.ErrSyntax", Rows.laid_strconv_ErrSyntax), ("driftnet/quote.escapes", Rows.laid_driftnet_quote_escapes), ("driftnet/quote.coded", Rows.laid_driftnet_quote_coded)]
def smallB : List Nat := (List.range 20).filter fun k => k != 3 && k != 5
noncomputable def world0 (os : Os) : World := (World.doorLaid Tryz.prog 400 os).layVars Tryz.prog greatL
theorem world0_os (os : Os) : (world0 os).os = os := World.layVars_os _ _ _
theorem great_eq : (laidL.filter fun x => greatN.contains x.1) = greatL := by simp [laidL, greatN, greatL]
theorem small_eq : (laidL.filter fun x => !greatN.contains x.1) = smallL := by simp [laidL, greatN, smallL]

set_option maxRecDepth 100000 in
theorem world0_met (os : Os) (args : Array Value) : laidMetH Tryz.prog laidL ((world0 os).forCall (fun _ _ => 0) ⟨#[], args, []⟩).memory := by
  rw [MakeChecks.laidMetH_plain _ _ _ (by kernel_rfl)]
  refine laidMet_layVars (w0 := World.doorLaid Tryz.prog 400 os) greatN smallB ?_ ?_ ?_ ?_
  · rw [great_eq]; simp [World.memory, World.forCall, Input.heap, world0]
  · rw [great_eq]; kernel_rfl
  · rw [great_eq]; kernel_rfl
  · rw [small_eq]
    exact LaidIn.of_run smallB 8 (by kernel_rfl) (by kernel_rfl) (by kernel_rfl) (by kernel_rfl)
end Go.Proofs.YtnmofpefofkoeaaGreatDoor
set_option linter.unusedVariables false
namespace Go.Proofs.YtnmofpefofkoeaaGreatDoor
open Go Go.RowKit Go.Lib Go.Proofs.YtnmofpefofkoeaaGreatDoorW.PrintWords Go.Proofs.YtnmofpefofkoeaaGreatDoorW.PrintLast Go.Proofs.YtnmofpefofkoeaaGreatDoorW.PrintMore Go.Proofs.YtnmofpefofkoeaaGreatDoor.P

theorem cmp_less : ∀ a b : List UInt8, (compareBytes a b < 0) ↔ Op.bytesLess a b = true
  | [], [] => by simp [compareBytes, Op.bytesLess]
  | [], b :: bs => by simp [compareBytes, Op.bytesLess]
  | a :: xs, [] => by simp [compareBytes, Op.bytesLess]
  | a :: xs, b :: bs => by
    have ih := cmp_less xs bs
    rw [compareBytes, Op.bytesLess]
    by_cases h1 : a < b
    · simp [h1]
    · rw [if_neg h1]
      by_cases h2 : b < a
      · have hne : (a == b) = false := beq_eq_false_iff_ne.2 (by rintro rfl; exact absurd h2 (by simp))
        rw [if_pos h2, hne]; simp [h1]
      · have heq : a = b := UInt8.toNat_inj.1 (by
          have q1 : ¬ a.toNat < b.toNat := fun h => h1 (UInt8.lt_iff_toNat_lt.2 h)
          have q2 : ¬ b.toNat < a.toNat := fun h => h2 (UInt8.lt_iff_toNat_lt.2 h)
          omega)
        rw [if_neg h2, ih, heq]; simp
theorem less_trans : ∀ a b c : List UInt8, Op.bytesLess a b = true → Op.bytesLess b c = true → Op.bytesLess a c = true
  | _, [], _, h, _ => by cases ‹List UInt8› <;> simp [Op.bytesLess] at h
  | _, _ :: _, [], _, h => by simp [Op.bytesLess] at h
  | [], _ :: _, _ :: _, _, _ => by simp [Op.bytesLess]
  | a :: xs, b :: bs, c :: cs, h1, h2 => by
    have ih := less_trans xs bs cs
    simp only [Op.bytesLess, Bool.or_eq_true, Bool.and_eq_true, decide_eq_true_eq, beq_iff_eq] at h1 h2 ⊢
    rcases h1 with h1 | ⟨rfl, h1⟩
    · rcases h2 with h2 | ⟨rfl, h2⟩
      · left; exact UInt8.lt_iff_toNat_lt.2 (by have := UInt8.lt_iff_toNat_lt.1 h1; have := UInt8.lt_iff_toNat_lt.1 h2; omega)
      · left; exact h1
    · rcases h2 with h2 | ⟨rfl, h2⟩
      · left; exact h2
      · right; exact ⟨rfl, ih h1 h2⟩

def lessL (x : Lab) (n : ByteArray) : Bool := Op.bytesLess x.f0.data.toList n.data.toList
/-- The names ahead of a name are the first p. -/
def Cut (L : List Lab) (n : ByteArray) (p : Nat) : Prop := p ≤ L.length ∧ (∀ i x, L[i]? = some x → i < p → lessL x n = true) ∧ (∀ i x, L[i]? = some x → p ≤ i → lessL x n = false)
theorem bs_cut (L : List Lab) (n : ByteArray) (p : Nat) (h : Cut L n p) : ∀ k i j, i ≤ p → p ≤ j → j ≤ L.length → j - i < k → bsP L n k i j = p
  | 0, i, j, _, _, _, hk => by omega
  | k + 1, i, j, h1, h2, h3, hk => by
    rw [bsP]
    by_cases hij : i < j
    · have hm : (i + j) / 2 < L.length := by omega
      have hx : L[(i + j) / 2]? = some L[(i + j) / 2] := List.getElem?_eq_getElem hm
      have hg : L.getD ((i + j) / 2) z35 = L[(i + j) / 2] := by rw [List.getD_eq_getElem?_getD, hx]; rfl
      rw [if_pos hij, hg]
      by_cases hc : compareBytes L[(i + j) / 2].f0.data.toList n.data.toList < 0
      · have hp : (i + j) / 2 < p := by
          rcases Nat.lt_or_ge ((i + j) / 2) p with h' | h'
          · exact h'
          · have := h.2.2 _ _ hx h'
            unfold lessL at this
            rw [(cmp_less _ _).1 hc] at this; cases this
        rw [if_pos hc]
        exact bs_cut L n p h k _ _ (by omega) h2 h3 (by omega)
      · have hp : p ≤ (i + j) / 2 := by
          rcases Nat.lt_or_ge ((i + j) / 2) p with h' | h'
          · have := h.2.1 _ _ hx h'
            unfold lessL at this
            exact absurd ((cmp_less _ _).2 this) hc
          · exact h'
        rw [if_neg hc]
        exact bs_cut L n p h k _ _ h1 hp (by omega) (by omega)
    · rw [if_neg hij]; omega
def Sorted (L : List Lab) : Prop := L.Pairwise fun a b => Op.bytesLess a.f0.data.toList b.f0.data.toList = true
theorem cut_of : ∀ (L : List Lab) (n : ByteArray), Sorted L → ∃ p, Cut L n p
  | [], n, _ => ⟨0, Nat.le_refl _, fun i x h _ => by simp at h, fun i x h _ => by simp at h⟩
  | a :: L, n, h => by
    obtain ⟨ha, hL⟩ := List.pairwise_cons.1 h
    by_cases hl : lessL a n = true
    · obtain ⟨p, hp, h1, h2⟩ := cut_of L n hL
      refine ⟨p + 1, by simp; omega, fun i x hx hi => ?_, fun i x hx hi => ?_⟩
      · cases i with
        | zero => simp at hx; subst hx; exact hl
        | succ i => exact h1 i x (by simpa using hx) (by omega)
      · cases i with
        | zero => omega
        | succ i => exact h2 i x (by simpa using hx) (by omega)
    · refine ⟨0, Nat.zero_le _, fun i x hx hi => absurd hi (by omega), fun i x hx _ => ?_⟩
      cases i with
      | zero => simp at hx; subst hx; simpa using hl
      | succ i =>
        have hm : x ∈ L := List.mem_of_getElem? (by simpa using hx)
        cases hb : lessL x n with
        | false => rfl
        | true => exact absurd (less_trans _ _ _ (ha x hm) hb) hl
theorem place_cut (L : List Lab) (n : ByteArray) (p : Nat) (h : Cut L n p) : placeP L n = p := bs_cut L n p h _ 0 L.length (Nat.zero_le _) h.1 (Nat.le_refl _) (by omega)

theorem ref_inOrder (l : List Lab) : ∀ (k : Nat) (i : Int), P.driftnetref05_InOrder.l0 k l i = P.labels_inOrder.l0 k l l (l.length : Int) i
  | 0, i => rfl
  | k + 1, i => by
    have ih := fun j => ref_inOrder l k j
    rw [P.driftnetref05_InOrder.l0, P.labels_inOrder.l0]
    by_cases h1 : i < (l.length : Int)
    · rw [if_pos h1, if_pos h1]
      by_cases h2 : 0 ≤ i
      · rw [if_pos h2, if_pos h2, if_pos h1]
        simp only [ih]
      · rw [if_neg h2, if_neg h2]
    · rw [if_neg h1, if_neg h1]
theorem ref_inOrder_f (l : List Lab) (k : Nat) : P.driftnetref05_InOrder.f k l = P.labels_inOrder.f k l := ref_inOrder l k 0
theorem inOrder_more (l : List Lab) (b : Bool) (k : Nat) (h : P.labels_inOrder.f k l = some b) : ∀ m, P.labels_inOrder.f (k + m) l = some b
  | 0 => h
  | m + 1 => P.labels_inOrder.mono l (k + m) b (inOrder_more l b k h m)

theorem rd_nat (l : List Lab) (i : Nat) (h : i < l.length) : rd_T35 l (i : Int) = l[i] := by
  unfold rd_T35
  rw [Int.toNat_natCast, List.getD_eq_getElem?_getD, List.getElem?_eq_getElem h]; rfl
theorem inOrder_adj (l : List Lab) (hl : l.length ≤ 1000000) : ∀ (d i k : Nat), l.length - i = d → i ≤ l.length → P.labels_inOrder.l0 k l l (l.length : Int) (i : Int) = some true → ∀ j (hj : j + 1 < l.length), i ≤ j + 1 → Op.bytesLess l[j].f0.data.toList l[j + 1].f0.data.toList = true
  | 0, i, k, hd, hi, hk, j, hj, hij => by omega
  | d + 1, i, k, hd, hi, hk, j, hj, hij => by
    have hw : wrap64 ((i : Int) + 1) = ((i + 1 : Nat) : Int) := by unfold wrap64; omega
    cases k with
    | zero => simp [P.labels_inOrder.l0] at hk
    | succ k =>
      rw [P.labels_inOrder.l0, if_pos (by omega), if_pos (by omega), if_pos (by omega), hw] at hk
      have hil : i < l.length := by omega
      rw [rd_nat l i hil] at hk
      split at hk
      · cases hk
      · split at hk
        · rename_i hpos
          have hw2 : wrap64 ((i : Int) - 1) = ((i - 1 : Nat) : Int) := by unfold wrap64; omega
          rw [hw2, if_pos (by omega), if_pos (by omega), rd_nat l (i - 1) (by omega)] at hk
          split at hk
          · rename_i hless
            by_cases hij2 : i = j + 1
            · subst hij2
              simp only [ByteArray.toList_eq, Nat.add_sub_cancel] at hless
              exact hless
            · exact inOrder_adj l hl d (i + 1) k (by omega) (by omega) hk j hj (by omega)
          · cases hk
        · exact inOrder_adj l hl d (i + 1) k (by omega) (by omega) hk j hj (by omega)
theorem inOrder_sorted (l : List Lab) (hl : l.length ≤ 1000000) (k : Nat) (h : P.labels_inOrder.f k l = some true) : Sorted l := by
  have adj := inOrder_adj l hl l.length 0 k (by omega) (Nat.zero_le _) h
  refine List.pairwise_iff_getElem.2 fun i j hi hj hij => ?_
  have : ∀ m (hm : i + m + 1 < l.length), Op.bytesLess l[i].f0.data.toList l[i + m + 1].f0.data.toList = true := fun m => by
    induction m with
    | zero => intro hm; exact adj i hm (Nat.zero_le _)
    | succ m ih => intro hm; exact less_trans _ _ _ (ih (by omega)) (adj (i + m + 1) hm (Nat.zero_le _))
  obtain ⟨m, rfl⟩ : ∃ m, j = i + m + 1 := ⟨j - i - 1, by omega⟩
  exact this m hj

theorem among_one (n m : ByteArray) (k : Nat) : P.driftnetref05_among.f (k + 2) [n] m = some (n.toList == m.toList) := by
  unfold P.driftnetref05_among.f
  have h0 : rdOf ByteArray.empty [n] 0 = n := rfl
  have hw : wrap64 (0 + 1) = 1 := by unfold wrap64; omega
  rw [P.driftnetref05_among.l0, if_pos (by simp), if_pos (by decide), h0]
  by_cases h : n.toList = m.toList
  · rw [if_pos h, h]; simp
  · rw [if_neg h, hw, P.driftnetref05_among.l0, if_neg (by simp), beq_eq_false_iff_ne.2 h]
theorem keep_flip (n : ByteArray) (x : Lab) : ((n.toList == x.f0.toList) == false) = keepB n x := by
  unfold keepB
  by_cases h : n.toList = x.f0.toList
  · rw [h]; simp
  · rw [beq_eq_false_iff_ne.2 h, beq_eq_false_iff_ne.2 (fun e => h e.symm)]; rfl

theorem choose_loop (l : List Lab) (hl : l.length ≤ 1000000) (n : ByteArray) (K : Nat) (hK : P.labels_inOrder.f K l = some true) : ∀ (d i k : Nat) (out : List Lab), l.length - i = d → i ≤ l.length → out.length ≤ i → 2 * d + K + 4 ≤ k →
    P.driftnetref05_choose.l0 k l [n] false out (i : Int) = some (out ++ (l.drop i).filter (keepB n))
  | 0, i, k, out, hd, hi, ho, hk => by
    obtain ⟨k, rfl⟩ : ∃ m, k = m + 2 := ⟨k - 2, by omega⟩
    rw [show k + 2 = (k + 1) + 1 from rfl, P.driftnetref05_choose.l0, if_neg (by omega), P.driftnetref05_choose.j1, if_neg (by decide), List.drop_eq_nil_of_le (by omega)]
    simp
  | d + 1, i, k, out, hd, hi, ho, hk => by
    obtain ⟨k, rfl⟩ : ∃ m, k = m + 4 := ⟨k - 4, by omega⟩
    have hw : wrap64 ((i : Int) + 1) = ((i + 1 : Nat) : Int) := by unfold wrap64; omega
    have hil : i < l.length := by omega
    have hio : P.driftnetref05_InOrder.f (k + 3) l = some true := by
      rw [ref_inOrder_f, show k + 3 = K + (k + 3 - K) by omega]
      exact inOrder_more l true K hK _
    have ih := fun o ho => choose_loop l hl n K hK d (i + 1) (k + 2) o (by omega) (by omega) ho (by omega)
    rw [show k + 4 = (k + 3) + 1 from rfl, P.driftnetref05_choose.l0, if_pos (by omega), hio, Option.bind_some, show k + 3 = (k + 2) + 1 from rfl, P.driftnetref05_choose.j1, if_pos rfl, if_pos (by omega), if_pos (by omega), rd_nat l i hil, among_one n l[i].f0 k, Option.bind_some, keep_flip, hw, List.drop_eq_getElem_cons hil, List.filter_cons]
    by_cases hp : keepB n l[i] = true
    · rw [if_pos hp, if_pos hp, if_pos (by omega), ih _ (by simp; omega), List.append_assoc]
      rfl
    · rw [if_neg hp, if_neg hp, ih _ (by omega)]
theorem ref_drop (l : List Lab) (hl : l.length ≤ 1000000) (n : ByteArray) (K : Nat) (hK : P.labels_inOrder.f K l = some true) (k : Nat) (hk : 2 * l.length + K + 4 ≤ k) : P.driftnetref05_Drop.f k l n = some (l.filter (keepB n)) := by
  unfold P.driftnetref05_Drop.f P.driftnetref05_choose.f
  have := choose_loop l hl n K hK l.length 0 k [] (by omega) (Nat.zero_le _) (Nat.le_refl _) hk
  rw [show ((0 : Nat) : Int) = 0 from rfl] at this
  rw [this, Option.bind_some]
  simp

theorem put_loop (l : List Lab) (hl : l.length ≤ 1000000) (n v : ByteArray) (p : Nat) (hp : Cut l n p) : ∀ (d i k : Nat), l.length - i = d → i ≤ l.length → d < k →
    P.driftnetref05_put.l0 k l ((min i p : Nat) : Int) (i : Int) n v = some (l.take p ++ ⟨n, v⟩ :: l.drop p)
  | 0, i, k, hd, hi, hk => by
    obtain ⟨k, rfl⟩ : ∃ m, k = m + 1 := ⟨k - 1, by omega⟩
    have hpl := hp.1
    have hm : min i p = p := by omega
    rw [P.driftnetref05_put.l0, if_neg (by omega), hm, if_pos (by omega), if_pos (by omega), Option.bind_some, Int.toNat_natCast, if_pos (by simp; omega), Option.bind_some, Option.bind_some, if_pos (by simp; omega), Option.bind_some, Option.bind_some, if_pos (by simp; omega)]
    simp
  | d + 1, i, k, hd, hi, hk => by
    obtain ⟨k, rfl⟩ : ∃ m, k = m + 1 := ⟨k - 1, by omega⟩
    have hw : wrap64 ((i : Int) + 1) = ((i + 1 : Nat) : Int) := by unfold wrap64; omega
    have hil : i < l.length := by omega
    have hx : l[i]? = some l[i] := List.getElem?_eq_getElem hil
    have ih := put_loop l hl n v p hp d (i + 1) k (by omega) (by omega) (by omega)
    rw [P.driftnetref05_put.l0, if_pos (by omega), if_pos (by omega), rd_nat l i hil, hw]
    simp only [ByteArray.toList_eq]
    by_cases hip : i < p
    · have := hp.2.1 i _ hx hip
      unfold lessL at this
      rw [if_pos this]
      rw [show min (i + 1) p = i + 1 by omega] at ih
      exact ih
    · have := hp.2.2 i _ hx (by omega)
      unfold lessL at this
      rw [this, if_neg (by decide), show min i p = p by omega]
      rw [show min (i + 1) p = p by omega] at ih
      exact ih

/-- The reference's Set tells what the program's does. -/
theorem ref_set (l : List Lab) (hl : l.length ≤ 999999) (n v : ByteArray) (k : Nat) (hk : 3 * l.length + 10 ≤ k) : P.driftnetref05_Set.f k l n v = P.labels_Set.f l n v := by
  unfold P.labels_Set.f
  rw [if_pos hl]
  have htot : ∃ b, P.labels_inOrder.f (l.length + 1) l = some b := by
    have tot : ∀ (d i k : Nat), l.length - i = d → i ≤ l.length → d < k → ∃ b, P.labels_inOrder.l0 k l l (l.length : Int) (i : Int) = some b := by
      intro d
      induction d with
      | zero =>
        intro i k hd hi hk
        obtain ⟨k, rfl⟩ : ∃ m, k = m + 1 := ⟨k - 1, by omega⟩
        rw [P.labels_inOrder.l0, if_neg (by omega)]
        exact ⟨_, rfl⟩
      | succ d ih =>
        intro i k hd hi hk
        obtain ⟨k, rfl⟩ : ∃ m, k = m + 1 := ⟨k - 1, by omega⟩
        have hw : wrap64 ((i : Int) + 1) = ((i + 1 : Nat) : Int) := by unfold wrap64; omega
        have ih := ih (i + 1) k (by omega) (by omega) (by omega)
        rw [P.labels_inOrder.l0, if_pos (by omega), if_pos (by omega), if_pos (by omega), hw]
        split
        · exact ⟨_, rfl⟩
        · split
          · have hw2 : wrap64 ((i : Int) - 1) = (i : Int) - 1 := by unfold wrap64; omega
            rw [hw2, if_pos (by omega), if_pos (by omega)]
            split
            · exact ih
            · exact ⟨_, rfl⟩
          · exact ih
    exact tot l.length 0 (l.length + 1) (by omega) (by omega) (by omega)
  obtain ⟨b, hb⟩ := htot
  have hb2 : P.driftnetref05_InOrder.f k l = some b := by
    rw [ref_inOrder_f, show k = (l.length + 1) + (k - (l.length + 1)) by omega]
    exact inOrder_more l b _ hb _
  unfold P.driftnetref05_Set.f
  rw [hb, hb2, Option.bind_some, Option.bind_some]
  cases b with
  | false => rfl
  | true =>
    have hs := inOrder_sorted l (by omega) _ hb
    have hfs : Sorted (l.filter (keepB n)) := List.Pairwise.filter _ hs
    have hfl := List.length_filter_le (keepB n) l
    obtain ⟨p, hp⟩ := cut_of _ n hfs
    rw [if_pos rfl, if_pos rfl, ref_drop l (by omega) n (l.length + 1) hb k (by omega), Option.bind_some]
    unfold setP
    rw [place_cut _ n p hp]
    split
    · rfl
    · unfold P.driftnetref05_put.f
      have := put_loop (l.filter (keepB n)) (by omega) n v p hp (l.filter (keepB n)).length 0 k (by omega) (Nat.zero_le _) (by omega)
      rw [Nat.zero_min] at this
      rw [show ((0 : Nat) : Int) = 0 from rfl] at this
      rw [this, Option.bind_some]
end Go.Proofs.YtnmofpefofkoeaaGreatDoor
set_option linter.unusedVariables false
namespace Go.Proofs.YtnmofpefofkoeaaGreatDoor
open Go Go.RowKit Go.Lib Go.Proofs.YtnmofpefofkoeaaGreatDoorW.PrintWords Go.Proofs.YtnmofpefofkoeaaGreatDoorW.PrintLast Go.Proofs.YtnmofpefofkoeaaGreatDoorW.PrintMore Go.Proofs.YtnmofpefofkoeaaGreatDoor.P

theorem inOrder_tot (l : List Lab) (hl : l.length ≤ 1000000) : ∀ (d i k : Nat), l.length - i = d → i ≤ l.length → d < k → ∃ b, P.labels_inOrder.l0 k l l (l.length : Int) (i : Int) = some b
  | 0, i, k, hd, hi, hk => by
    obtain ⟨k, rfl⟩ : ∃ m, k = m + 1 := ⟨k - 1, by omega⟩
    rw [P.labels_inOrder.l0, if_neg (by omega)]
    exact ⟨_, rfl⟩
  | d + 1, i, k, hd, hi, hk => by
    obtain ⟨k, rfl⟩ : ∃ m, k = m + 1 := ⟨k - 1, by omega⟩
    have hw : wrap64 ((i : Int) + 1) = ((i + 1 : Nat) : Int) := by unfold wrap64; omega
    have ih := inOrder_tot l hl d (i + 1) k (by omega) (by omega) (by omega)
    rw [P.labels_inOrder.l0, if_pos (by omega), if_pos (by omega), if_pos (by omega), hw]
    split
    · exact ⟨_, rfl⟩
    · split
      · have hw2 : wrap64 ((i : Int) - 1) = (i : Int) - 1 := by unfold wrap64; omega
        rw [hw2, if_pos (by omega), if_pos (by omega)]
        split
        · exact ih
        · exact ⟨_, rfl⟩
      · exact ih
theorem set_tot (l : List Lab) (hl : l.length ≤ 999999) (n v : ByteArray) : ∃ r, P.labels_Set.f l n v = some r ∧ r.length ≤ l.length + 1 := by
  obtain ⟨b, hb⟩ := inOrder_tot l (by omega) l.length 0 (l.length + 1) (by omega) (by omega) (by omega)
  unfold P.labels_Set.f
  have hb2 : P.labels_inOrder.f (l.length + 1) l = some b := hb
  rw [if_pos hl, hb2, Option.bind_some]
  refine ⟨_, rfl, ?_⟩
  have hf := List.length_filter_le (keepB n) l
  split
  · unfold setP
    split
    · omega
    · simp only [List.length_append, List.length_cons, List.length_take, List.length_drop]; omega
  · simp

theorem same_lp (l : List Lab) (hl : l.length ≤ 1000000) : ∀ (d i k : Nat), l.length - i = d → i ≤ l.length → d < k → P.driftnetlaw16_same.l0 k l l (i : Int) = some true
  | 0, i, k, hd, hi, hk => by
    obtain ⟨k, rfl⟩ : ∃ m, k = m + 1 := ⟨k - 1, by omega⟩
    rw [P.driftnetlaw16_same.l0, if_neg (by omega)]
  | d + 1, i, k, hd, hi, hk => by
    obtain ⟨k, rfl⟩ : ∃ m, k = m + 1 := ⟨k - 1, by omega⟩
    have hw : wrap64 ((i : Int) + 1) = ((i + 1 : Nat) : Int) := by unfold wrap64; omega
    rw [P.driftnetlaw16_same.l0, if_pos (by omega), if_pos (by omega), if_pos (by omega), hw, if_neg (by simp)]
    exact same_lp l hl d (i + 1) k (by omega) (by omega) (by omega)
theorem same_refl (l : List Lab) (hl : l.length ≤ 1000000) (k : Nat) (hk : l.length < k) : P.driftnetlaw16_same.f k l l = some true := by
  unfold P.driftnetlaw16_same.f
  rw [if_pos rfl]
  exact same_lp l hl l.length 0 k (by omega) (by omega) hk

end Go.Proofs.YtnmofpefofkoeaaGreatDoor
set_option linter.unusedVariables false
namespace Go.Proofs.YtnmofpefofkoeaaGreatDoor
open Go Go.RowKit Go.Lib Go.Proofs.YtnmofpefofkoeaaGreatDoorW.PrintWords Go.Proofs.YtnmofpefofkoeaaGreatDoorW.PrintLast Go.Proofs.YtnmofpefofkoeaaGreatDoorW.PrintMore Go.Proofs.YtnmofpefofkoeaaGreatDoor.P

set_option maxRecDepth 100000 in
set_option maxHeartbeats 1000000 in
theorem get1_calls (a : Lab) (n : ByteArray) (B : Nat) (w : World) (hB : w.cell? ⟨B, 0, none⟩ = some (.string n)) (hl : B < w.heap.size) :
    Calls Tryz.prog 32 #[labV a, .pointer (some ⟨B, 0, none⟩)] w fun e w' => e = .returned (.bool (a.f0.toList == n.toList)) ∧ Below w.heap.size w w' := by
  have hu := Tryz.underlying35
  go_enter Tryz.func32, Tryz.ntmps32
  go_wp2
  go_ret
  exact ⟨rfl, by repeat (first | exact Below.refl _ _ | apply below_alloc | apply pw_below_drewN | apply below_drew1)⟩

def idxL (n : ByteArray) : List Lab → Nat → Int
  | [], _ => -1
  | x :: l, i => if (x.f0.toList == n.toList) = true then (i : Int) else idxL n l (i + 1)
def getP (n : ByteArray) : List Lab → ByteArray
  | [] => ⟨#[]⟩
  | x :: l => if (x.f0.toList == n.toList) = true then x.f1 else getP n l
theorem idxL_none (n : ByteArray) : ∀ (l : List Lab) (i : Nat), idxL n l i < 0 → getP n l = ⟨#[]⟩ ∧ idxL n l i = -1
  | [], _, _ => ⟨rfl, rfl⟩
  | x :: l, i, h => by
    rw [idxL] at h ⊢
    rw [getP]
    by_cases hx : (x.f0.toList == n.toList) = true
    · rw [if_pos hx] at h; omega
    · rw [if_neg hx] at h ⊢; rw [if_neg hx]; exact idxL_none n l (i + 1) h
theorem idxL_some (n : ByteArray) : ∀ (l : List Lab) (i : Nat), 0 ≤ idxL n l i → ∃ j x, idxL n l i = ((i + j : Nat) : Int) ∧ l[j]? = some x ∧ x.f1 = getP n l
  | [], _, h => by rw [idxL] at h; omega
  | x :: l, i, h => by
    rw [idxL] at h ⊢
    rw [getP]
    by_cases hx : (x.f0.toList == n.toList) = true
    · rw [if_pos hx, if_pos hx]; exact ⟨0, x, rfl, rfl, rfl⟩
    · rw [if_neg hx] at h ⊢
      rw [if_neg hx]
      obtain ⟨j, y, e, hj, hy⟩ := idxL_some n l (i + 1) h
      exact ⟨j + 1, y, by rw [e]; omega, by simpa using hj, hy⟩

set_option maxRecDepth 100000 in
set_option maxHeartbeats 4000000 in
theorem indexFunc_calls (n : ByteArray) (B : Nat) (A0 : Option Addr) (c0 : Nat) (l0 : List Lab) (w : World) (hr0 : Kd.C k35 w A0 l0.length l0) (hc0 : l0.length ≤ c0) (hn : w.cell? ⟨B, 0, none⟩ = some (.string n)) (hlen : l0.length ≤ 1000000) :
    Calls Tryz.prog 31 #[.slice A0 l0.length c0, .func (.func 32) #[] #[.pointer (some ⟨B, 0, none⟩)]] w fun e w' =>
      e = .returned (.int .i64 (idxL n l0 0)) ∧ Below w.heap.size w w' := by
  have hu := Tryz.underlying35
  have hBl := World.block_lt_of_cell? w _ hn
  generalize hres : idxL n l0 0 = res
  have HRES : Aside0 (idxL n (l0.drop 0) 0 = res) := ⟨hres⟩
  have HR0 := Aside0.mk hr0
  have HN := Aside0.mk hn
  have HL := Aside0.mk hlen
  clear hr0 hc0 hn hlen hres
  go_enter Tryz.func31, Tryz.ntmps31
  go_wp2
  go_loopg [5, 8] l0.length (fun kq _ v8 wr => ∃ (j : Int), v8 = .int .i64 j ∧ Aside0 (∃ i : Nat, j = (i : Int) ∧ kq + i = l0.length ∧ idxL n (l0.drop i) i = res) ∧ Aside0 (Below w.heap.size w wr))
  case atStart => exact ⟨0, rfl, ⟨0, rfl, rfl, HRES.out⟩, ⟨Below.refl _ _⟩⟩
  case round =>
    obtain ⟨j, rfl, ⟨i, hij, hk, hO⟩, HB⟩ := hrel
    cases gk with
    | zero =>
      have hg : decide (j < (l0.length : Int)) = false := decide_eq_false (by omega)
      rw [List.drop_of_length_le (by omega)] at hO
      rw [idxL] at hO
      subst hO
      clear hij hk
      go_wp2
      go_ret
      exact ⟨rfl, HB.out⟩
    | succ kq =>
      have hi : i < l0.length := by omega
      obtain ⟨ad, e1, hx0, hx1⟩ := at_T35 HR0.out j (by omega) (by omega)
      cases e1
      have hrd : rd_T35 l0 j = l0[i] := by
        unfold rd_T35
        rw [show j.toNat = i by omega, List.getD_eq_getElem?_getD, List.getElem?_eq_getElem hi]; rfl
      rw [List.drop_eq_getElem_cons hi, idxL] at hO
      rw [hrd] at hx0 hx1
      generalize l0[i] = x at hx0 hx1 hO
      clear hrd
      replace hx0 := (HB.out.cell (World.block_lt_of_cell? w _ hx0)).trans hx0
      replace hx1 := (HB.out.cell (World.block_lt_of_cell? w _ hx1)).trans hx1
      have hg : decide (j < (l0.length : Int)) = true := decide_eq_true (by omega)
      have p1 : (0 ≤ j) = True := eq_true (by omega)
      have q1 : (j < (l0.length : Int)) = True := eq_true (by omega)
      have HJ : Aside0 (j = (i : Int) ∧ kq + 1 + i = l0.length) := ⟨hij, hk⟩
      cases hkp : (x.f0.toList == n.toList) with
      | true =>
        rw [hkp, if_pos rfl] at hO
        have HO := Aside0.mk hO
        clear hO hij hk hi
        go_wp2_with (go_at_call 32; (with_reducible refine (get1_calls x n B _ ?cB ?cL).mono ?_); (case cB => exact (HB.out.cell (p := ⟨B, 0, none⟩) hBl).trans HN.out); (case cL => exact Nat.lt_of_lt_of_le hBl (below_size HB.out)); rintro e w7 ⟨rfl, hb⟩; rw [hkp]; have NB := Aside0.mk (below_step HB.out hb); clear hb)
        go_ret
        exact ⟨by rw [← HO.out, HJ.out.1]; rfl, NB.out⟩
      | false =>
        rw [hkp, if_neg Bool.false_ne_true] at hO
        have HO := Aside0.mk hO
        clear hO hij hk hi
        go_wp2_with (go_at_call 32; (with_reducible refine (get1_calls x n B _ ?cB ?cL).mono ?_); (case cB => exact (HB.out.cell (p := ⟨B, 0, none⟩) hBl).trans HN.out); (case cL => exact Nat.lt_of_lt_of_le hBl (below_size HB.out)); rintro e w7 ⟨rfl, hb⟩; rw [hkp]; have NB := Aside0.mk (below_step HB.out hb); clear hb)
        go_roundg kq
        case measure => have := HJ.out; omega
        case rel =>
          refine ⟨wrap64 (j + 1), rfl, ⟨i + 1, ?_, ?_, HO.out⟩, NB⟩
          · have := HJ.out; have := HL.out; unfold wrap64; omega
          · have := HJ.out; omega

def P.labels_Get.f (l0 : List S35) (a1 : ByteArray) : Option ByteArray := if l0.length ≤ 1000000 then some (getP a1 l0) else none
set_option maxRecDepth 100000 in
set_option maxHeartbeats 4000000 in
theorem P.labels_Get.calls (A0 : Option Addr) (c0 : Nat) (l0 : List S35) (a1 : ByteArray) (r : ByteArray) (w : World) (hr0 : Kd.C k35 w A0 l0.length l0) (hc0 : l0.length ≤ c0) (h : P.labels_Get.f l0 a1 = some r) :
    Calls Tryz.prog 16 #[.slice A0 l0.length c0, .string a1] w fun e w' => e = .returned (.string r) ∧ Below w.heap.size w w' := by
  unfold P.labels_Get.f at h
  by_cases hlen : l0.length ≤ 1000000
  case neg => rw [if_neg hlen] at h; exact absurd h (by simp)
  rw [if_pos hlen] at h
  injection h with h
  subst h
  have hmf : ∀ (fn : Fn) (first cap : Array Value) (w : World), (Instr.makeFunc fn first cap).run Tryz.prog w = .ok (.func fn first cap) w := fun _ _ _ _ => by simp [Instr.makeFunc, go_sem]
  have hu := Tryz.underlying35
  have HR0 := Aside0.mk hr0
  have HC0 := Aside0.mk hc0
  have HL := Aside0.mk hlen
  by_cases hi : idxL a1 l0 0 < 0
  · obtain ⟨e1, e2⟩ := idxL_none a1 l0 0 hi
    rw [e1]
    clear hi e1 hr0 hc0 hlen
    go_enter Tryz.func16, Tryz.ntmps16
    go_wp2_with (go_at_call 31; (with_reducible refine (indexFunc_calls a1 w.heap.size A0 c0 l0 _ (Kd.C_below HR0.out (below_alloc (Below.refl _ _) _)) HC0.out (by first | exact (blk_cell (blk_new w _) 0).trans rfl | exact World.cell?_alloc_new _ _) HL.out).mono ?_); rintro e w1 ⟨rfl, hb⟩; rw [e2]; have HB := Aside0.mk hb; clear hb)
    go_ret
    exact ⟨rfl, below_step (below_alloc (Below.refl _ _) _) HB.out⟩
  · obtain ⟨j, x, e2, hj, e1⟩ := idxL_some a1 l0 0 (by omega)
    rw [← e1]
    have hjl : j < l0.length := by
      rcases Nat.lt_or_ge j l0.length with h | h
      · exact h
      · rw [List.getElem?_eq_none h] at hj; exact absurd hj (by simp)
    rw [Nat.zero_add] at e2
    obtain ⟨ad, ea, hx0, hx1⟩ := at_T35 HR0.out (j : Int) (by omega) (by omega)
    cases ea
    have hrd : rd_T35 l0 (j : Int) = x := by
      unfold rd_T35
      rw [Int.toNat_natCast, List.getD_eq_getElem?_getD, hj]; rfl
    rw [hrd] at hx0 hx1
    have p1 : (0 ≤ (j : Int)) = True := eq_true (by omega)
    have q1 : ((j : Int) < (l0.length : Int)) = True := eq_true (by omega)
    have hg : decide ((j : Int) < 0) = false := decide_eq_false (by omega)
    have HX1 := Aside0.mk hx1
    clear hi e1 hr0 hc0 hlen hj hrd hjl hx0 hx1
    go_enter Tryz.func16, Tryz.ntmps16
    go_wp2_with (go_at_call 31; (with_reducible refine (indexFunc_calls a1 w.heap.size (some ad) c0 l0 _ (Kd.C_below HR0.out (below_alloc (Below.refl _ _) _)) HC0.out (by first | exact (blk_cell (blk_new w _) 0).trans rfl | exact World.cell?_alloc_new _ _) HL.out).mono ?_); rintro e w1 ⟨rfl, hb⟩; rw [e2]; have HB := Aside0.mk (below_step (below_alloc (Below.refl _ _) _) hb); clear hb; have hy1 : w1.cell? ⟨(ad.add (j * 2)).block, (ad.add (j * 2)).off + 1, none⟩ = some (.string x.f1) := (HB.out.cell (World.block_lt_of_cell? w _ HX1.out)).trans HX1.out)
    go_ret
    exact ⟨rfl, HB.out⟩
end Go.Proofs.YtnmofpefofkoeaaGreatDoor
set_option linter.unusedVariables false
namespace Go.Proofs.YtnmofpefofkoeaaGreatDoor
open Go Go.RowKit Go.Lib Go.Proofs.YtnmofpefofkoeaaGreatDoorW.PrintWords Go.Proofs.YtnmofpefofkoeaaGreatDoorW.PrintLast Go.Proofs.YtnmofpefofkoeaaGreatDoorW.PrintMore Go.Proofs.YtnmofpefofkoeaaGreatDoor.P

/-- Labels in order, none without a value. -/
def InO (l : List Lab) : Prop := Sorted l ∧ ∀ x ∈ l, x.f1.toList ≠ []
theorem tl_inj {s t : ByteArray} (h : s.toList = t.toList) : s = t := by
  rw [ByteArray.toList_eq, ByteArray.toList_eq] at h
  cases s with | mk a => cases t with | mk b => cases a with | mk l => cases b with | mk m => simp only at h; rw [h]
theorem tl_iff (s t : ByteArray) : ((s.toList == t.toList) = true) ↔ s = t := by
  rw [beq_iff_eq]
  exact ⟨tl_inj, fun h => by rw [h]⟩
theorem less_irr : ∀ a : List UInt8, Op.bytesLess a a = false
  | [] => by simp [Op.bytesLess]
  | a :: t => by
    have := less_irr t
    simp [Op.bytesLess, this]
theorem less_tri : ∀ a b : List UInt8, Op.bytesLess a b = false → a ≠ b → Op.bytesLess b a = true
  | [], [], _, h => absurd rfl h
  | [], b :: bs, h, _ => by simp [Op.bytesLess] at h
  | a :: xs, [], _, _ => by simp [Op.bytesLess]
  | a :: xs, b :: bs, h, hn => by
    simp only [Op.bytesLess, Bool.or_eq_false_iff, Bool.and_eq_false_iff, decide_eq_false_iff_not, beq_eq_false_iff_ne, Bool.or_eq_true, Bool.and_eq_true, decide_eq_true_eq, beq_iff_eq] at h ⊢
    by_cases he : a = b
    · subst he
      right
      refine ⟨rfl, less_tri xs bs ?_ (fun e => hn (by rw [e]))⟩
      rcases h.2 with h2 | h2
      · exact absurd rfl h2
      · exact h2
    · left
      refine UInt8.lt_iff_toNat_lt.2 ?_
      have q1 : ¬ a.toNat < b.toNat := fun h' => h.1 (UInt8.lt_iff_toNat_lt.2 h')
      have q2 : a.toNat ≠ b.toNat := fun h' => he (UInt8.toNat_inj.1 h')
      omega

theorem inO_loop (l : List Lab) (hl : l.length ≤ 1000000) (h : InO l) : ∀ (d i k : Nat), l.length - i = d → i ≤ l.length → d < k → P.labels_inOrder.l0 k l l (l.length : Int) (i : Int) = some true
  | 0, i, k, hd, hi, hk => by
    obtain ⟨k, rfl⟩ : ∃ m, k = m + 1 := ⟨k - 1, by omega⟩
    rw [P.labels_inOrder.l0, if_neg (by omega)]
  | d + 1, i, k, hd, hi, hk => by
    obtain ⟨k, rfl⟩ : ∃ m, k = m + 1 := ⟨k - 1, by omega⟩
    have hw : wrap64 ((i : Int) + 1) = ((i + 1 : Nat) : Int) := by unfold wrap64; omega
    have ih := inO_loop l hl h d (i + 1) k (by omega) (by omega) (by omega)
    have hil : i < l.length := by omega
    have hv : ¬ (l[i]).f1.toList = ([] : List UInt8) := h.2 _ (List.getElem_mem hil)
    rw [P.labels_inOrder.l0, if_pos (by omega), if_pos (by omega), if_pos (by omega), hw, rd_nat l i hil, if_neg hv]
    split
    · have hw2 : wrap64 ((i : Int) - 1) = ((i - 1 : Nat) : Int) := by unfold wrap64; omega
      have hs := List.pairwise_iff_getElem.1 h.1 (i - 1) i (by omega) hil (by omega)
      rw [hw2, if_pos (by omega), if_pos (by omega), rd_nat l (i - 1) (by omega), if_pos (by simpa only [ByteArray.toList_eq] using hs)]
      exact ih
    · exact ih
theorem set_f (l : List Lab) (hl : l.length ≤ 999999) (h : InO l) (n v : ByteArray) : P.labels_Set.f l n v = some (setP l n v) := by
  have hb : P.labels_inOrder.f (l.length + 1) l = some true := inO_loop l (by omega) h l.length 0 (l.length + 1) (by omega) (by omega) (by omega)
  unfold P.labels_Set.f
  rw [if_pos hl, hb, Option.bind_some, if_pos rfl]
theorem keep_ne (n : ByteArray) (x : Lab) : keepB n x = true ↔ x.f0 ≠ n := by
  unfold keepB
  rw [Bool.not_eq_true', ← Bool.not_eq_true, tl_iff]
theorem setP_in (l : List Lab) (n v : ByteArray) (h : InO l) : InO (setP l n v) := by
  have hf : Sorted (l.filter (keepB n)) := h.1.filter _
  have hfv : ∀ x ∈ l.filter (keepB n), x.f1.toList ≠ [] := fun x hx => h.2 x (List.mem_filter.1 hx).1
  have hfn : ∀ x ∈ l.filter (keepB n), x.f0 ≠ n := fun x hx => (keep_ne n x).1 (List.mem_filter.1 hx).2
  unfold setP
  split
  · exact ⟨hf, hfv⟩
  · rename_i hv
    generalize l.filter (keepB n) = L at hf hfv hfn
    obtain ⟨p, hp⟩ := cut_of L n hf
    rw [place_cut L n p hp]
    have hsplit : (L.take p ++ L.drop p).Pairwise fun a b => Op.bytesLess a.f0.data.toList b.f0.data.toList = true := by rw [List.take_append_drop]; exact hf
    obtain ⟨s1, s2, s3⟩ := List.pairwise_append.1 hsplit
    have hA : ∀ x ∈ L.take p, Op.bytesLess x.f0.data.toList n.data.toList = true := fun x hx => by
      obtain ⟨i, hi, rfl⟩ := List.getElem_of_mem hx
      rw [List.length_take] at hi
      rw [List.getElem_take]
      exact hp.2.1 i _ (List.getElem?_eq_getElem (by omega)) (by omega)
    have hB : ∀ x ∈ L.drop p, Op.bytesLess n.data.toList x.f0.data.toList = true := fun x hx => by
      have hm := List.mem_of_mem_drop hx
      obtain ⟨i, hi, rfl⟩ := List.getElem_of_mem hx
      rw [List.length_drop] at hi
      rw [List.getElem_drop] at hm ⊢
      refine less_tri _ _ (hp.2.2 (p + i) _ (List.getElem?_eq_getElem (by omega)) (by omega)) (fun e => hfn _ hm (tl_inj ?_))
      rw [ByteArray.toList_eq, ByteArray.toList_eq, e]
    refine ⟨List.pairwise_append.2 ⟨s1, List.pairwise_cons.2 ⟨hB, s2⟩, fun a ha b hb => ?_⟩, fun x hx => ?_⟩
    · rcases List.mem_cons.1 hb with rfl | hb
      · exact hA a ha
      · exact s3 a ha b hb
    · rcases List.mem_append.1 hx with hx | hx
      · exact hfv x (List.mem_of_mem_take hx)
      · rcases List.mem_cons.1 hx with rfl | hx
        · exact hv
        · exact hfv x (List.mem_of_mem_drop hx)
theorem setP_len (l : List Lab) (n v : ByteArray) : (setP l n v).length ≤ l.length + 1 := by
  have hf := List.length_filter_le (keepB n) l
  unfold setP
  split
  · omega
  · simp only [List.length_append, List.length_cons, List.length_take, List.length_drop]; omega

theorem getP_cons (m : ByteArray) (x : Lab) (l : List Lab) : getP m (x :: l) = if x.f0 = m then x.f1 else getP m l := by
  rw [getP]
  by_cases h : x.f0 = m
  · rw [if_pos h, if_pos ((tl_iff _ _).2 h)]
  · rw [if_neg h, if_neg (fun e => h ((tl_iff _ _).1 e))]
theorem getP_filter (m n : ByteArray) : ∀ l : List Lab, getP m (l.filter (keepB n)) = if m = n then ⟨#[]⟩ else getP m l
  | [] => by simp [getP]
  | x :: l => by
    have ih := getP_filter m n l
    rw [List.filter_cons]
    by_cases hk : keepB n x = true
    · rw [if_pos hk, getP_cons, ih, getP_cons]
      have := (keep_ne n x).1 hk
      by_cases hm : m = n
      · subst hm; rw [if_neg this, if_pos rfl, if_pos rfl]
      · rw [if_neg hm, if_neg hm]
    · rw [if_neg hk, ih, getP_cons]
      have hx : x.f0 = n := Classical.byContradiction fun h => hk ((keep_ne n x).2 h)
      by_cases hm : m = n
      · rw [if_pos hm, if_pos hm]
      · rw [if_neg hm, if_neg hm, if_neg (fun e => hm (e.symm.trans hx))]
theorem getP_skip (m : ByteArray) (B : List Lab) : ∀ A : List Lab, (∀ y ∈ A, y.f0 ≠ m) → getP m (A ++ B) = getP m B
  | [], _ => rfl
  | y :: A, h => by rw [List.cons_append, getP_cons, if_neg (h y (by simp)), getP_skip m B A (fun z hz => h z (by simp [hz]))]
theorem getP_ins (m : ByteArray) (x : Lab) (B : List Lab) (hx : x.f0 ≠ m) : ∀ A : List Lab, getP m (A ++ x :: B) = getP m (A ++ B)
  | [] => by rw [List.nil_append, List.nil_append, getP_cons, if_neg hx]
  | y :: A => by rw [List.cons_append, List.cons_append, getP_cons, getP_cons, getP_ins m x B hx A]
theorem getP_set (l : List Lab) (n v m : ByteArray) : getP m (setP l n v) = if m = n then v else getP m l := by
  unfold setP
  by_cases hv : v.toList = []
  · have hv2 : v = ⟨#[]⟩ := tl_inj (by rw [hv, ByteArray.toList_eq])
    rw [if_pos hv, getP_filter, hv2]
  · rw [if_neg hv]
    by_cases hm : m = n
    · subst hm
      rw [if_pos rfl, getP_skip, getP_cons, if_pos rfl]
      intro y hy
      exact (keep_ne m y).1 (List.mem_filter.1 (List.mem_of_mem_take hy)).2
    · rw [if_neg hm, getP_ins m _ _ (fun e => hm e.symm), List.take_append_drop, getP_filter, if_neg hm]
theorem getP_of_mem : ∀ (l : List Lab), Sorted l → ∀ x ∈ l, getP x.f0 l = x.f1
  | [], _, x, hx => by cases hx
  | y :: l, h, x, hx => by
    obtain ⟨h1, h2⟩ := List.pairwise_cons.1 h
    rw [getP_cons]
    rcases List.mem_cons.1 hx with rfl | hx
    · rw [if_pos rfl]
    · have := h1 x hx
      rw [if_neg (fun e => by rw [e, less_irr] at this; cases this), getP_of_mem l h2 x hx]
theorem getP_mem (m : ByteArray) : ∀ l : List Lab, getP m l ≠ ⟨#[]⟩ → ∃ y ∈ l, y.f0 = m
  | [], h => absurd rfl h
  | y :: l, h => by
    rw [getP_cons] at h
    by_cases e : y.f0 = m
    · exact ⟨y, by simp, e⟩
    · rw [if_neg e] at h
      obtain ⟨z, hz, ez⟩ := getP_mem m l h
      exact ⟨z, by simp [hz], ez⟩
theorem inO_get (l : List Lab) (h : InO l) (x : Lab) (hx : x ∈ l) : getP x.f0 l = x.f1 ∧ x.f1 ≠ ⟨#[]⟩ :=
  ⟨getP_of_mem l h.1 x hx, fun e => h.2 x hx (by rw [e, ByteArray.toList_eq])⟩

/-- Sets, one behind another. -/
def foldS (ts : List (ByteArray × ByteArray)) (out : List Lab) : List Lab := ts.foldl (fun o p => setP o p.1 p.2) out
def lastOr (m : ByteArray) (ts : List (ByteArray × ByteArray)) (d : ByteArray) : ByteArray := ts.foldl (fun o p => if m = p.1 then p.2 else o) d
theorem foldS_in : ∀ (ts : List (ByteArray × ByteArray)) (out : List Lab), InO out → InO (foldS ts out)
  | [], _, h => h
  | p :: ts, out, h => foldS_in ts (setP out p.1 p.2) (setP_in out p.1 p.2 h)
theorem foldS_len : ∀ (ts : List (ByteArray × ByteArray)) (out : List Lab), (foldS ts out).length ≤ out.length + ts.length
  | [], _ => Nat.le_refl _
  | p :: ts, out => by
    have h1 := foldS_len ts (setP out p.1 p.2)
    have h2 := setP_len out p.1 p.2
    rw [List.length_cons]
    exact Nat.le_trans h1 (by omega)
theorem foldS_get (m : ByteArray) : ∀ (ts : List (ByteArray × ByteArray)) (out : List Lab), getP m (foldS ts out) = lastOr m ts (getP m out)
  | [], _ => rfl
  | p :: ts, out => by
    show getP m (foldS ts (setP out p.1 p.2)) = lastOr m ts (if m = p.1 then p.2 else getP m out)
    rw [foldS_get m ts, getP_set]
theorem foldS_app (a b : List (ByteArray × ByteArray)) (out : List Lab) : foldS (a ++ b) out = foldS b (foldS a out) := by
  unfold foldS; rw [List.foldl_append]
theorem lastOr_two (m : ByteArray) : ∀ ts : List (ByteArray × ByteArray), (∃ v, ∀ d, lastOr m ts d = v) ∨ (∀ d, lastOr m ts d = d)
  | [] => .inr fun _ => rfl
  | p :: ts => by
    have e : ∀ d, lastOr m (p :: ts) d = lastOr m ts (if m = p.1 then p.2 else d) := fun _ => rfl
    rcases lastOr_two m ts with ⟨v, h⟩ | h
    · exact .inl ⟨v, fun d => by rw [e, h]⟩
    · by_cases hm : m = p.1
      · exact .inl ⟨p.2, fun d => by rw [e, h, if_pos hm]⟩
      · exact .inr fun d => by rw [e, h, if_neg hm]
def pairsOf (l : List Lab) : List (ByteArray × ByteArray) := l.map fun x => (x.f0, x.f1)
theorem lastOr_pairs (m d : ByteArray) : ∀ l : List Lab, InO l → lastOr m (pairsOf l) d = if getP m l = ⟨#[]⟩ then d else getP m l
  | [], _ => by simp [lastOr, pairsOf, getP]
  | x :: l, h => by
    obtain ⟨h1, h2⟩ := List.pairwise_cons.1 h.1
    have hl : InO l := ⟨h2, fun y hy => h.2 y (by simp [hy])⟩
    have e : lastOr m (pairsOf (x :: l)) d = lastOr m (pairsOf l) (if m = x.f0 then x.f1 else d) := rfl
    rw [e, getP_cons]
    have ih := fun d => lastOr_pairs m d l hl
    by_cases hm : m = x.f0
    · have hg : getP m l = ⟨#[]⟩ := Classical.byContradiction fun hne => by
        obtain ⟨y, hy, ey⟩ := getP_mem m l hne
        have := h1 y hy
        rw [ey, hm, less_irr] at this; cases this
      have hx : x.f1 ≠ ⟨#[]⟩ := fun e => h.2 x (by simp) (by rw [e, ByteArray.toList_eq])
      rw [if_pos hm, if_pos hm.symm, if_neg hx]
      have := lastOr_pairs m x.f1 l hl
      rw [hg, if_pos rfl] at this
      exact this
    · have hm2 : ¬ x.f0 = m := fun e => hm e.symm
      rw [if_neg hm, if_neg hm2]
      exact lastOr_pairs m d l hl

theorem names_le : ∀ (d w : List (List UInt8)), d.Nodup → (∀ x ∈ d, x ∈ w) → d.length ≤ w.length
  | [], _, _, _ => Nat.zero_le _
  | x :: d, w, h, hs => by
    obtain ⟨h1, h2⟩ := List.nodup_cons.1 h
    have hx := hs x (by simp)
    have := names_le d (w.erase x) h2 (fun y hy => (List.mem_erase_of_ne (fun e => h1 (by rw [← e]; exact hy))).2 (hs y (by simp [hy])))
    rw [List.length_erase_of_mem hx] at this
    have : 0 < w.length := List.length_pos_of_mem hx
    rw [List.length_cons]; omega
theorem inO_nodup (l : List Lab) (h : Sorted l) : (l.map fun x => x.f0.data.toList).Nodup := by
  rw [List.Nodup, List.pairwise_map]
  exact h.imp fun {a b} hab e => by rw [e, less_irr] at hab; cases hab

/-- The second list's pairs, set on the first one's: the law's three tests. -/
theorem two_sets (a : List Lab) (ha : InO a) (ts : List (ByteArray × ByteArray)) :
    (foldS ts a).length ≤ (foldS (pairsOf (foldS ts [])) a).length ∧ (∀ x ∈ foldS ts a, getP x.f0 (foldS (pairsOf (foldS ts [])) a) = x.f1) ∧ (∀ x ∈ foldS ts [], getP x.f0 (foldS ts a) = x.f1) := by
  have hb : InO (foldS ts []) := foldS_in ts [] ⟨List.Pairwise.nil, fun x hx => by cases hx⟩
  have hd : InO (foldS ts a) := foldS_in ts a ha
  have gb : ∀ m, getP m (foldS ts []) = lastOr m ts ⟨#[]⟩ := fun m => foldS_get m ts []
  have key : ∀ x ∈ foldS ts a, getP x.f0 (foldS (pairsOf (foldS ts [])) a) = x.f1 := fun x hx => by
    obtain ⟨e1, e2⟩ := inO_get _ hd x hx
    rw [foldS_get, lastOr_pairs _ _ _ hb, gb]
    rw [foldS_get] at e1
    rcases lastOr_two x.f0 ts with ⟨v, h⟩ | h
    · rw [h] at e1 ⊢
      rw [e1, if_neg e2]
    · rw [h] at e1
      rw [h, if_pos rfl, e1]
  refine ⟨?_, key, fun x hx => ?_⟩
  · have := names_le ((foldS ts a).map fun x => x.f0.data.toList) ((foldS (pairsOf (foldS ts [])) a).map fun x => x.f0.data.toList) (inO_nodup _ hd.1) (fun n hn => by
      obtain ⟨x, hx, rfl⟩ := List.mem_map.1 hn
      have e2 := (inO_get _ hd x hx).2
      rw [← key x hx] at e2
      obtain ⟨y, hy, ey⟩ := getP_mem _ _ e2
      exact List.mem_map.2 ⟨y, hy, by rw [ey]⟩)
    rwa [List.length_map, List.length_map] at this
  · obtain ⟨e1, e2⟩ := inO_get _ hb x hx
    rw [gb] at e1
    rw [foldS_get]
    rcases lastOr_two x.f0 ts with ⟨v, h⟩ | h
    · rw [h] at e1 ⊢
      exact e1
    · rw [h] at e1
      exact absurd e1.symm e2
end Go.Proofs.YtnmofpefofkoeaaGreatDoor
set_option linter.unusedVariables false
namespace Go.Proofs.YtnmofpefofkoeaaGreatDoor
open Go Go.RowKit Go.Lib Go.Proofs.YtnmofpefofkoeaaGreatDoorW.PrintWords Go.Proofs.YtnmofpefofkoeaaGreatDoorW.PrintLast Go.Proofs.YtnmofpefofkoeaaGreatDoorW.PrintMore Go.Proofs.YtnmofpefofkoeaaGreatDoor.P

theorem bax_ext {s t : ByteArray} (h : s.data.toList = t.data.toList) : s = t := by
  cases s with | mk a => cases t with | mk b => cases a with | mk l => cases b with | mk m => simp only at h; rw [h]
theorem bax_extract (s : ByteArray) (a b : Nat) : (s.extract a b).data.toList = (s.data.toList.take b).drop a := by
  rw [ByteArray.data_extract, Array.toList_extract, List.extract_eq_take_drop, List.drop_take]
theorem mk_data (s : ByteArray) : s = ⟨s.data.toList.toArray⟩ := bax_ext rfl
theorem mk_size (l : List UInt8) : (⟨l.toArray⟩ : ByteArray).size = l.length := rfl
theorem plainN_app (v rest : List UInt8) (hv : ∀ c ∈ v, plainB c = true) (c : UInt8) (hc : plainB c = false) : plainN (v ++ c :: rest) = v.length := by
  induction v with
  | nil => rw [List.nil_append, plainN, hc]; rfl
  | cons a v ih => rw [List.cons_append, plainN, hv a (by simp), if_pos rfl, ih (fun c h => hv c (by simp [h]))]; rfl
theorem plain_at (v rest : List UInt8) (hv : ∀ c ∈ v, plainB c = true) (c : UInt8) (hc : plainB c = false) (hs : (v ++ c :: rest).length ≤ 17592186044416) :
    P.logfmt_reader_plain.f ⟨(v ++ c :: rest).toArray⟩ = some (⟨v.toArray⟩, ⟨(c :: rest).toArray⟩) := by
  unfold P.logfmt_reader_plain.f
  rw [if_pos (by rw [mk_size]; exact hs)]
  show some (ByteArray.extract _ 0 (plainN (v ++ c :: rest)), ByteArray.extract _ (plainN (v ++ c :: rest)) _) = _
  rw [plainN_app v rest hv c hc]
  congr 2
  · refine bax_ext ?_
    rw [bax_extract]; simp
  · refine bax_ext ?_
    rw [bax_extract, mk_size]
    show ((v ++ c :: rest).take (v ++ c :: rest).length).drop v.length = c :: rest
    rw [List.take_length, List.drop_left]

/-- One pair: a name of one byte, a value without blanks, = and ". -/
theorem pair_at (kk : Nat) (a : UInt8) (v rest : List UInt8) (ha : plainB a = true) (hv : ∀ c ∈ v, plainB c = true) (hs : v.length + rest.length ≤ 1000000000) :
    P.logfmt_reader_pair.f kk ⟨(a :: 61 :: (v ++ 32 :: rest)).toArray⟩ = some (⟨[a].toArray⟩, ⟨v.toArray⟩, true, ⟨(32 :: rest).toArray⟩) := by
  have h1 := plain_at [a] (v ++ 32 :: rest) (fun c h => by simp at h; subst h; exact ha) 61 (by decide) (by simp; omega)
  have h2 := plain_at v rest hv 32 (by decide) (by simp; omega)
  unfold P.logfmt_reader_pair.f
  rw [show a :: 61 :: (v ++ 32 :: rest) = [a] ++ 61 :: (v ++ 32 :: rest) from rfl, h1, Option.bind_some]
  simp only
  rw [if_neg (by rw [ByteArray.toList_eq]; exact List.cons_ne_nil _ _)]
  have hcut : P.strings_CutPrefix.f ⟨(61 :: (v ++ 32 :: rest)).toArray⟩ ⟨#[61]⟩ = some (⟨(v ++ 32 :: rest).toArray⟩, true) := by
    unfold P.strings_CutPrefix.f
    simp [Lib.trimPrefix, Lib.hasPrefix]
  rw [hcut, Option.bind_some, if_pos rfl]
  have hhas : P.strings_HasPrefix.f ⟨(v ++ 32 :: rest).toArray⟩ ⟨#[34]⟩ = some false := by
    unfold P.strings_HasPrefix.f
    cases v with
    | nil => simp [Lib.hasPrefix, List.isPrefixOf]
    | cons b v =>
      have hb := hv b (by simp)
      have : b ≠ 34 := by rintro rfl; exact absurd hb (by decide)
      simp [Lib.hasPrefix, List.isPrefixOf]
      intro h; exact this h.symm
  rw [hhas, Option.bind_some, if_neg (by decide), h2, Option.bind_some]

theorem skip_end (x : Int) (k : Nat) (l : List UInt8) (h : l = [] ∨ ∃ c t, l = c :: t ∧ 32 < c.toNat) : P.logfmt_reader_skip.l0 (k + 1) x ⟨l.toArray⟩ = some (decide ((l.length : Int) < x), ⟨l.toArray⟩) := by
  have hsz : (⟨l.toArray⟩ : ByteArray).size = l.length := rfl
  rw [P.logfmt_reader_skip.l0, hsz]
  rcases h with rfl | ⟨c, t, rfl, hc⟩
  · rw [if_pos (by rw [ByteArray.toList_eq])]
  · have hb : bt ⟨(c :: t).toArray⟩ 0 = (c.toNat : Int) := by
      have h' : ((0 : Int)).toNat < (⟨(c :: t).toArray⟩ : ByteArray).size := by show 0 < t.length + 1; omega
      rw [← bt_at _ (0 : Int) h']; rfl
    rw [if_neg (by rw [ByteArray.toList_eq]; exact List.cons_ne_nil _ _), if_pos (by simp), hb, if_neg (by omega)]
theorem skip_blank (k : Nat) (l : List UInt8) (h : l = [] ∨ ∃ c t, l = c :: t ∧ 32 < c.toNat) : P.logfmt_reader_skip.f (k + 2) ⟨(32 :: l).toArray⟩ = some (true, ⟨l.toArray⟩) := by
  have hsz : (⟨(32 :: l).toArray⟩ : ByteArray).size = l.length + 1 := rfl
  have hb : bt ⟨((32 : UInt8) :: l).toArray⟩ 0 = 32 := by
    have h' : ((0 : Int)).toNat < (⟨((32 : UInt8) :: l).toArray⟩ : ByteArray).size := by show 0 < l.length + 1; omega
    rw [← bt_at _ (0 : Int) h']; rfl
  have hx : (⟨((32 : UInt8) :: l).toArray⟩ : ByteArray).extract 1 (l.length + 1) = ⟨l.toArray⟩ := by
    refine bax_ext ?_
    rw [bax_extract]
    show (((32 : UInt8) :: l).take (l.length + 1)).drop 1 = l
    rw [List.take_of_length_le (by simp)]; rfl
  unfold P.logfmt_reader_skip.f
  rw [show k + 2 = (k + 1) + 1 from rfl, P.logfmt_reader_skip.l0, if_neg (by rw [ByteArray.toList_eq]; exact List.cons_ne_nil _ _), hsz, if_pos (by omega), hb, if_pos (by omega), if_pos (by omega), hx, skip_end _ _ _ h]
  congr 2
  exact decide_eq_true (by omega)

/-- Pairs: a letter, and a value. -/
def lineOf (its : List (UInt8 × List UInt8)) : List UInt8 := its.flatMap fun p => p.1 :: 61 :: (p.2 ++ [32])
def foldSet : List (UInt8 × List UInt8) → List Lab → Option (List Lab)
  | [], out => some out
  | p :: r, out => (P.labels_Set.f out ⟨[p.1].toArray⟩ ⟨p.2.toArray⟩).bind (foldSet r)
def itOk (p : UInt8 × List UInt8) : Prop := 97 ≤ p.1.toNat ∧ p.1.toNat ≤ 122 ∧ ∀ c ∈ p.2, plainB c = true
theorem clean_all : ∀ c : Fin 256, 97 ≤ c.val → c.val ≤ 122 → cleanP [UInt8.ofNat c.val] = [UInt8.ofNat c.val] ∧ plainB (UInt8.ofNat c.val) = true := by decide +kernel
theorem clean_letter (c : UInt8) (h1 : 97 ≤ c.toNat) (h2 : c.toNat ≤ 122) : cleanP [c] = [c] ∧ plainB c = true := by
  have := clean_all ⟨c.toNat, c.toNat_lt⟩ h1 h2
  have e : UInt8.ofNat c.toNat = c := by simp
  simp only [e] at this
  exact this
theorem lineOf_head : ∀ (its : List (UInt8 × List UInt8)), (∀ p ∈ its, itOk p) → lineOf its = [] ∨ ∃ c t, lineOf its = c :: t ∧ 32 < c.toNat
  | [], _ => .inl rfl
  | p :: r, h => .inr ⟨p.1, 61 :: (p.2 ++ [32]) ++ lineOf r, rfl, by have := (h p (by simp)).1; omega⟩
theorem parse_fold (kk : Nat) (hk : 2 ≤ kk) : ∀ (its : List (UInt8 × List UInt8)) (out r : List Lab) (n : Nat), (∀ p ∈ its, itOk p) → its.length < n → (lineOf its).length ≤ 1000000000 → foldSet its out = some r →
    P.parseLoop kk n out true ⟨(lineOf its).toArray⟩ = some (r, true)
  | [], out, r, n, _, hn, _, hf => by
    obtain ⟨n, rfl⟩ : ∃ m, n = m + 1 := ⟨n - 1, by omega⟩
    injection hf with hf
    subst hf
    rw [P.parseLoop, if_pos (by rw [ByteArray.toList_eq]; rfl)]
  | p :: its, out, r, n, hi, hn, hl, hf => by
    obtain ⟨n, rfl⟩ : ∃ m, n = m + 1 := ⟨n - 1, by omega⟩
    obtain ⟨kk, rfl⟩ : ∃ m, kk = m + 2 := ⟨kk - 2, by omega⟩
    obtain ⟨h1, h2, h3⟩ := hi p (by simp)
    obtain ⟨hc, hpl⟩ := clean_letter p.1 h1 h2
    have he : lineOf (p :: its) = p.1 :: 61 :: (p.2 ++ 32 :: lineOf its) := by
      show p.1 :: 61 :: (p.2 ++ [32]) ++ lineOf its = _
      simp
    rw [he] at hl ⊢
    simp only [List.length_cons, List.length_append] at hl
    obtain ⟨out2, hs, hf⟩ := Option.bind_eq_some_iff.1 hf
    have hcl : P.labels_Clean.f ⟨[p.1].toArray⟩ = some ⟨[p.1].toArray⟩ := by
      unfold P.labels_Clean.f
      rw [if_pos (by show 1 ≤ _; omega)]
      show some (ByteArray.mk (cleanP [p.1]).toArray) = _
      rw [hc]
    rw [P.parseLoop, if_neg (by rw [ByteArray.toList_eq]; exact List.cons_ne_nil _ _), pair_at _ p.1 p.2 (lineOf its) hpl h3 (by omega), Option.bind_some]
    simp only
    rw [if_pos trivial, if_pos trivial, hcl, Option.bind_some, hs, Option.bind_some, skip_blank _ _ (lineOf_head its (fun q hq => hi q (by simp [hq]))), Option.bind_some]
    exact parse_fold _ hk its out2 r n (fun q hq => hi q (by simp [hq])) (by simp at hn; omega) (by omega) hf
theorem parse_line (its : List (UInt8 × List UInt8)) (r : List Lab) (hi : ∀ p ∈ its, itOk p) (hl : (lineOf its).length ≤ 1000000000) (hf : foldSet its [] = some r) : P.logfmt_Parse.f ⟨(lineOf its).toArray⟩ = some (r, true) := by
  unfold P.logfmt_Parse.f
  have hsz : (⟨(lineOf its).toArray⟩ : ByteArray).size = (lineOf its).length := rfl
  have hlen : ∀ its : List (UInt8 × List UInt8), its.length ≤ (lineOf its).length := fun its => by
    induction its with
    | nil => simp [lineOf]
    | cons p its ih => show _ ≤ (p.1 :: 61 :: (p.2 ++ [32]) ++ lineOf its).length; simp; omega
  have := hlen its
  rw [hsz]
  unfold P.logfmt_reader_skip.f
  rw [show 3 * (lineOf its).length + 100 = (3 * (lineOf its).length + 99) + 1 from rfl, skip_end _ _ _ (lineOf_head its hi), Option.bind_some]
  exact parse_fold _ (by omega) its [] r _ hi (by omega) hl hf
end Go.Proofs.YtnmofpefofkoeaaGreatDoor
set_option linter.unusedVariables false
namespace Go.Proofs.YtnmofpefofkoeaaGreatDoor
open Go Go.RowKit Go.Lib Go.Proofs.YtnmofpefofkoeaaGreatDoorW.PrintWords Go.Proofs.YtnmofpefofkoeaaGreatDoorW.PrintLast Go.Proofs.YtnmofpefofkoeaaGreatDoorW.PrintMore Go.Proofs.YtnmofpefofkoeaaGreatDoor.P

abbrev mkB (l : List UInt8) : ByteArray := ⟨l.toArray⟩
theorem mkB_drop (l : List UInt8) (a : Nat) : (mkB l).extract a (mkB l).size = mkB (l.drop a) := by
  refine bax_ext ?_
  rw [bax_extract]
  show (l.take l.length).drop a = l.drop a
  rw [List.take_length]
theorem mkB_take (l : List UInt8) (a : Nat) : (mkB l).extract 0 a = mkB (l.take a) := by
  refine bax_ext ?_
  rw [bax_extract]
  rfl
theorem mkB_bt (c : UInt8) (t : List UInt8) : bt (mkB (c :: t)) 0 = (c.toNat : Int) := by
  obtain ⟨c', t', e, hb, _⟩ := bt_drop (mkB (c :: t)) 0 (by show 0 < (c :: t).length; simp)
  have e2 : c :: t = c' :: t' := e
  injection e2 with e3 _
  exact (show bt (mkB (c :: t)) 0 = _ from hb).trans (by rw [e3])
theorem mkB_ne (c : UInt8) (t : List UInt8) : ¬ (mkB (c :: t)).toList = ([] : List UInt8) := by rw [ByteArray.toList_eq]; exact List.cons_ne_nil _ _
theorem mkB_nil : (mkB []).toList = ([] : List UInt8) := by rw [ByteArray.toList_eq]

/-! Blanks. -/
def skipP (l : List UInt8) : List UInt8 := l.dropWhile fun c => decide (c.toNat ≤ 32)
theorem skipP_cons (c : UInt8) (t : List UInt8) : skipP (c :: t) = if c.toNat ≤ 32 then skipP t else c :: t := by
  unfold skipP
  rw [List.dropWhile_cons]
  by_cases h : c.toNat ≤ 32 <;> simp [h]
theorem skipP_len : ∀ l, (skipP l).length ≤ l.length
  | [] => Nat.le_refl _
  | c :: t => by
    have := skipP_len t
    rw [skipP_cons]
    split
    · rw [List.length_cons]; omega
    · exact Nat.le_refl _
theorem skipP_head : ∀ l, skipP l = [] ∨ ∃ c t, skipP l = c :: t ∧ 32 < c.toNat
  | [] => .inl rfl
  | c :: t => by
    rw [skipP_cons]
    split
    · exact skipP_head t
    · exact .inr ⟨c, t, rfl, by omega⟩
theorem skipP_app : ∀ l t, skipP (l ++ t) = if skipP l = [] then skipP t else skipP l ++ t
  | [], t => by rw [List.nil_append, show skipP [] = [] from rfl, if_pos rfl]
  | c :: l, t => by
    rw [List.cons_append, skipP_cons, skipP_cons, skipP_app l t]
    by_cases h : c.toNat ≤ 32
    · rw [if_pos h, if_pos h]
    · rw [if_neg h, if_neg h, if_neg (List.cons_ne_nil _ _), List.cons_append]
theorem skipP_blank : ∀ l, (∀ c ∈ l, c.toNat ≤ 32) → skipP l = []
  | [], _ => rfl
  | c :: l, h => by rw [skipP_cons, if_pos (h c (by simp)), skipP_blank l (fun d hd => h d (by simp [hd]))]
theorem skip_l0 (x : Int) : ∀ (l : List UInt8) (k : Nat), l.length < k → P.logfmt_reader_skip.l0 k x (mkB l) = some (decide (((skipP l).length : Int) < x), mkB (skipP l))
  | l, 0, h => by omega
  | [], k + 1, _ => by rw [P.logfmt_reader_skip.l0, if_pos mkB_nil]; rfl
  | c :: t, k + 1, h => by
    have hs : ((mkB (c :: t)).size : Int) = (t.length : Int) + 1 := rfl
    rw [P.logfmt_reader_skip.l0, if_neg (mkB_ne c t), hs, if_pos (by omega), mkB_bt, skipP_cons]
    by_cases hc : c.toNat ≤ 32
    · rw [if_pos (by omega), if_pos (by omega), if_pos hc, mkB_drop]
      exact skip_l0 x t k (by simp at h; omega)
    · rw [if_neg (by omega), if_neg hc]
      rfl
theorem skip_f (l : List UInt8) (k : Nat) (h : l.length < k) : P.logfmt_reader_skip.f k (mkB l) = some (decide ((skipP l).length < l.length), mkB (skipP l)) := by
  unfold P.logfmt_reader_skip.f
  rw [skip_l0 _ l k h]
  congr 2
  exact decide_eq_decide.2 (by show ((skipP l).length : Int) < (l.length : Int) ↔ _; omega)

/-! A text in quotes. -/
def qEnd : List UInt8 → Option Nat
  | [] => none
  | [c] => if c = 34 then some 1 else none
  | c :: d :: t => if c = 92 then (qEnd t).map (· + 2) else if c = 34 then some 1 else (qEnd (d :: t)).map (· + 1)
theorem qEnd_cons (c : UInt8) (t : List UInt8) (h : c ≠ 92) : qEnd (c :: t) = if c = 34 then some 1 else (qEnd t).map (· + 1) := by
  cases t with
  | nil => rw [qEnd]; rfl
  | cons d t => rw [qEnd, if_neg h]
theorem qEnd_slash (t : List UInt8) : qEnd (92 :: t) = (qEnd (t.drop 1)).map (· + 2) := by
  cases t with
  | nil => rfl
  | cons d t => rw [qEnd, if_pos rfl]; rfl
theorem qEnd_le : ∀ (n : Nat) (a : List UInt8) (q : Nat), a.length ≤ n → qEnd a = some q → 1 ≤ q ∧ q ≤ a.length
  | _, [], q, _, h => by simp [qEnd] at h
  | 0, c :: t, q, hn, _ => by simp at hn
  | n + 1, c :: t, q, hn, h => by
    rw [List.length_cons] at hn ⊢
    by_cases h92 : c = 92
    · subst h92
      rw [qEnd_slash] at h
      obtain ⟨p, hp, rfl⟩ := Option.map_eq_some_iff.1 h
      have := qEnd_le n (t.drop 1) p (by rw [List.length_drop]; omega) hp
      rw [List.length_drop] at this
      omega
    · rw [qEnd_cons c t h92] at h
      split at h
      · injection h with h; omega
      · obtain ⟨p, hp, rfl⟩ := Option.map_eq_some_iff.1 h
        have := qEnd_le n t p (by omega) hp
        omega
theorem qEnd_app (t : List UInt8) : ∀ (n : Nat) (a : List UInt8) (q : Nat), a.length ≤ n → qEnd a = some q → qEnd (a ++ t) = some q
  | _, [], q, _, h => by simp [qEnd] at h
  | 0, c :: a, q, hn, _ => by simp at hn
  | n + 1, c :: a, q, hn, h => by
    rw [List.length_cons] at hn
    rw [List.cons_append]
    by_cases h92 : c = 92
    · subst h92
      rw [qEnd_slash] at h ⊢
      obtain ⟨p, hp, rfl⟩ := Option.map_eq_some_iff.1 h
      cases a with
      | nil => simp [qEnd] at hp
      | cons d a =>
        have := qEnd_app t n a p (by simp at hn; omega) hp
        show (qEnd (a ++ t)).map _ = _
        rw [this]; rfl
    · rw [qEnd_cons c _ h92] at h ⊢
      split at h
      · rename_i h34; rw [if_pos h34]; exact h
      · rename_i h34
        obtain ⟨p, hp, rfl⟩ := Option.map_eq_some_iff.1 h
        rw [if_neg h34, qEnd_app t n a p (by omega) hp]; rfl
theorem qEnd_none : ∀ (n : Nat) (t : List UInt8), t.length ≤ n → (∀ c ∈ t, c ≠ 34) → qEnd t = none
  | _, [], _, _ => rfl
  | 0, c :: t, hn, _ => by simp at hn
  | n + 1, c :: t, hn, h => by
    rw [List.length_cons] at hn
    by_cases h92 : c = 92
    · subst h92
      rw [qEnd_slash, qEnd_none n (t.drop 1) (by rw [List.length_drop]; omega) (fun d hd => h d (by simp [List.mem_of_mem_drop hd]))]; rfl
    · rw [qEnd_cons c t h92, if_neg (h c (by simp)), qEnd_none n t (by omega) (fun d hd => h d (by simp [hd]))]; rfl
theorem qEnd_bad (t : List UInt8) (ht : ∀ c ∈ t, c ≠ 34) : ∀ (n : Nat) (a : List UInt8), a.length ≤ n → qEnd a = none → qEnd (a ++ t) = none
  | _, [], _, _ => qEnd_none t.length t (Nat.le_refl _) ht
  | 0, c :: a, hn, _ => by simp at hn
  | n + 1, c :: a, hn, h => by
    rw [List.length_cons] at hn
    rw [List.cons_append]
    by_cases h92 : c = 92
    · subst h92
      rw [qEnd_slash] at h ⊢
      cases a with
      | nil =>
        rw [List.nil_append, qEnd_none t.length (t.drop 1) (by rw [List.length_drop]; omega) (fun d hd => ht d (List.mem_of_mem_drop hd))]; rfl
      | cons d a =>
        have := qEnd_bad t ht n a (by simp at hn; omega) (Option.map_eq_none_iff.1 h)
        show (qEnd (a ++ t)).map _ = _
        rw [this]; rfl
    · rw [qEnd_cons c _ h92] at h ⊢
      split at h
      · cases h
      · rename_i h34
        rw [if_neg h34, qEnd_bad t ht n a (by omega) (Option.map_eq_none_iff.1 h)]; rfl
theorem quoted_l0 (l : List UInt8) (hl : l.length ≤ 1000000) : ∀ (d i k : Nat), l.length - i ≤ d → 1 ≤ i → d < k →
    P.logfmt_reader_quoted.l0 k (i : Int) (mkB l) = (match qEnd (l.drop i) with | none => some (⟨#[]⟩, false, mkB l) | some q => (P.quote_Unquote.f (mkB (l.take (i + q)))).bind fun b => some (b.1, (b.2 == 0), mkB (l.drop (i + q))))
  | d, i, 0, _, _, h => by omega
  | d, i, k + 1, hd, h1, hk => by
    have hsz : (mkB l).size = l.length := rfl
    rw [P.logfmt_reader_quoted.l0, hsz]
    by_cases hi : i < l.length
    · obtain ⟨c, t, e, hb, et⟩ := bt_drop (mkB l) i hi
      have e' : l.drop i = c :: t := e
      have et' : l.drop (i + 1) = t := et
      have hw : wrap64 ((i : Int) + 1) = ((i + 1 : Nat) : Int) := by unfold wrap64; omega
      have hw2 : wrap64 (((i + 1 : Nat) : Int) + 1) = ((i + 2 : Nat) : Int) := by unfold wrap64; omega
      simp only [if_pos (show (i : Int) < (l.length : Int) by omega), if_pos (show (0 : Int) ≤ (i : Int) by omega), hb, hw, hw2]
      cases d with
      | zero => omega
      | succ d =>
        by_cases hc1 : c = 92
        · have hn : (c.toNat : Int) = 92 := by rw [hc1]; rfl
          have et2 : l.drop (i + 2) = t.drop 1 := by rw [← et', List.drop_drop]
          rw [if_pos hn, quoted_l0 l hl d (i + 2) k (by omega) (by omega) (by omega), e', hc1, qEnd_slash, et2]
          cases qEnd (t.drop 1) with
          | none => rfl
          | some q => simp only [Option.map_some]; rw [show i + (q + 2) = i + 2 + q by omega]
        · have hn : ¬ (c.toNat : Int) = 92 := fun h => hc1 (UInt8.toNat_inj.1 (by show c.toNat = 92; omega))
          rw [if_neg hn, e', qEnd_cons c t hc1]
          by_cases hc2 : c = 34
          · have hn2 : (c.toNat : Int) = 34 := by rw [hc2]; rfl
            rw [if_pos hn2, if_pos hc2, if_pos (show (0 : Int) ≤ ((i + 1 : Nat) : Int) by omega), if_pos (show ((i + 1 : Nat) : Int) ≤ (l.length : Int) by omega), Int.toNat_natCast]
            simp only
            rw [← mkB_take, ← mkB_drop]
            rfl
          · have hn2 : ¬ (c.toNat : Int) = 34 := fun h => hc2 (UInt8.toNat_inj.1 (by show c.toNat = 34; omega))
            rw [if_neg hn2, if_neg hc2, quoted_l0 l hl d (i + 1) k (by omega) (by omega) (by omega), et']
            cases qEnd t with
            | none => rfl
            | some q => simp only [Option.map_some]; rw [show i + (q + 1) = i + 1 + q by omega]
    · rw [if_neg (by omega), List.drop_of_length_le (by omega)]
      rfl

/-! One pair. -/
def valP : List UInt8 → Option (ByteArray × List UInt8)
  | [] => some (⟨#[]⟩, [])
  | e :: t => if e = 34 then (match qEnd t with | none => none | some q => (unquoteP (mkB (34 :: t.take q))).map fun v => (mkB v, t.drop q)) else some (mkB ((e :: t).take (plainN (e :: t))), (e :: t).drop (plainN (e :: t)))
def eqP (key : List UInt8) : List UInt8 → Option (List UInt8 × ByteArray × List UInt8)
  | [] => some (key, ⟨#[]⟩, [])
  | c :: t => if c = 61 then (valP t).map fun p => (key, p.1, p.2) else some (key, ⟨#[]⟩, c :: t)
def pairP (l : List UInt8) : Option (List UInt8 × ByteArray × List UInt8) := if plainN l = 0 then none else eqP (l.take (plainN l)) (l.drop (plainN l))
theorem plain_f (l : List UInt8) (hl : l.length ≤ 1000000) : P.logfmt_reader_plain.f (mkB l) = some (mkB (l.take (plainN l)), mkB (l.drop (plainN l))) := by
  unfold P.logfmt_reader_plain.f
  rw [if_pos (show (mkB l).size ≤ 17592186044416 from Nat.le_trans hl (by decide))]
  show some ((mkB l).extract 0 (plainN l), (mkB l).extract (plainN l) (mkB l).size) = _
  rw [mkB_take, mkB_drop]
theorem cut_eq (t : List UInt8) : P.strings_CutPrefix.f (mkB (61 :: t)) ⟨#[61]⟩ = some (mkB t, true) := by
  unfold P.strings_CutPrefix.f; simp [Lib.trimPrefix, Lib.hasPrefix]
theorem cut_nil : P.strings_CutPrefix.f (mkB []) ⟨#[61]⟩ = some (mkB [], false) := by
  unfold P.strings_CutPrefix.f; simp [Lib.trimPrefix, Lib.hasPrefix]
theorem cut_ne (c : UInt8) (t : List UInt8) (h : c ≠ 61) : P.strings_CutPrefix.f (mkB (c :: t)) ⟨#[61]⟩ = some (mkB (c :: t), false) := by
  have h2 : ¬ 61 = c := fun e => h e.symm
  unfold P.strings_CutPrefix.f; simp [Lib.trimPrefix, Lib.hasPrefix, List.isPrefixOf, h2]
theorem has_mark (c : UInt8) (t : List UInt8) : P.strings_HasPrefix.f (mkB (c :: t)) ⟨#[34]⟩ = some (decide (c = 34)) := by
  unfold P.strings_HasPrefix.f
  by_cases h : c = 34
  · subst h; simp [Lib.hasPrefix]
  · have h2 : ¬ 34 = c := fun e => h e.symm
    simp [Lib.hasPrefix, List.isPrefixOf, h, h2]
theorem has_nil : P.strings_HasPrefix.f (mkB []) ⟨#[34]⟩ = some false := by
  unfold P.strings_HasPrefix.f; simp [Lib.hasPrefix]
theorem pair_f (l : List UInt8) (hl : l.length ≤ 1000000) (kk : Nat) (hk : l.length + 2 ≤ kk) :
    (∃ p, pairP l = some p ∧ P.logfmt_reader_pair.f kk (mkB l) = some (mkB p.1, p.2.1, true, mkB p.2.2)) ∨ (pairP l = none ∧ ∃ a b c, P.logfmt_reader_pair.f kk (mkB l) = some (a, b, false, c)) := by
  have hn := plainN_le l
  unfold pairP P.logfmt_reader_pair.f
  rw [plain_f l hl, Option.bind_some]
  simp only
  by_cases h0 : plainN l = 0
  · right
    rw [if_pos h0, h0, List.take_zero, if_pos mkB_nil]
    exact ⟨rfl, _, _, _, rfl⟩
  · have hne : ¬ (mkB (l.take (plainN l))).toList = ([] : List UInt8) := by
      rw [ByteArray.toList_eq]
      show ¬ l.take (plainN l) = []
      intro h
      have := congrArg List.length h
      rw [List.length_take, List.length_nil] at this
      omega
    rw [if_neg h0, if_neg hne]
    have hlr : (l.drop (plainN l)).length ≤ l.length := by rw [List.length_drop]; omega
    generalize l.take (plainN l) = key
    generalize l.drop (plainN l) = r at hlr
    clear hne h0 hn
    cases r with
    | nil => left; rw [cut_nil, Option.bind_some]; exact ⟨_, rfl, rfl⟩
    | cons c t =>
      rw [List.length_cons] at hlr
      by_cases hc : c = 61
      · subst hc
        rw [cut_eq, Option.bind_some]
        simp only [if_pos]
        rw [eqP, if_pos rfl]
        cases t with
        | nil =>
          left
          rw [has_nil, Option.bind_some, if_neg Bool.false_ne_true, plain_f [] (by simp), Option.bind_some]
          exact ⟨_, rfl, rfl⟩
        | cons e t =>
          rw [List.length_cons] at hlr
          rw [has_mark, Option.bind_some, valP]
          by_cases he : e = 34
          · subst he
            rw [if_pos (by simp), if_pos (by simp)]
            unfold P.logfmt_reader_quoted.f
            have := quoted_l0 (34 :: t) (by rw [List.length_cons]; omega) (t.length + 1) 1 kk (by rw [List.length_cons]; omega) (Nat.le_refl _) (by omega)
            rw [show ((1 : Nat) : Int) = 1 from rfl] at this
            rw [this, List.drop_one, List.tail_cons]
            cases hq : qEnd t with
            | none => right; exact ⟨rfl, _, _, _, rfl⟩
            | some q =>
              have hq2 := qEnd_le t.length t q (Nat.le_refl _) hq
              have et : (34 :: t).take (1 + q) = 34 :: t.take q := by rw [Nat.add_comm]; rfl
              have ed : (34 :: t).drop (1 + q) = t.drop q := by rw [Nat.add_comm]; rfl
              have hsz : (mkB (34 :: t.take q)).size ≤ 17592186044416 := by
                show (34 :: t.take q).length ≤ _
                rw [List.length_cons, List.length_take]; omega
              simp only
              rw [et, ed]
              unfold P.quote_Unquote.f
              rw [if_pos hsz]
              cases hu : unquoteP (mkB (34 :: t.take q)) with
              | none => right; exact ⟨rfl, _, _, _, rfl⟩
              | some v => left; exact ⟨_, rfl, rfl⟩
          · left
            rw [if_neg he, if_neg (by simp [he]), plain_f (e :: t) (by rw [List.length_cons]; omega), Option.bind_some]
            exact ⟨_, rfl, rfl⟩
      · left
        rw [cut_ne c t hc, Option.bind_some, eqP, if_neg hc]
        exact ⟨_, rfl, rfl⟩

/-- A text that is empty or begins with a blank. -/
def BF (t : List UInt8) : Prop := t = [] ∨ ∃ c u, t = c :: u ∧ c.toNat ≤ 32
theorem blank_not (c : UInt8) (h : c.toNat ≤ 32) : plainB c = false ∧ c ≠ 61 ∧ c ≠ 34 := by
  refine ⟨by unfold plainB; simp [h], ?_, ?_⟩ <;> (rintro rfl; exact absurd h (by decide))
theorem plainN_bf (t : List UInt8) (h : BF t) : plainN t = 0 := by
  rcases h with rfl | ⟨c, u, rfl, hc⟩
  · rfl
  · rw [plainN, (blank_not c hc).1]; rfl
theorem plainN_bfapp (t : List UInt8) (h : BF t) : ∀ l, plainN (l ++ t) = plainN l
  | [] => by rw [List.nil_append, plainN_bf t h]; rfl
  | c :: l => by rw [List.cons_append, plainN, plainN, plainN_bfapp t h l]
theorem valP_app (t : List UInt8) (h : BF t) (u : List UInt8) (v : ByteArray) (r : List UInt8) (hu : valP u = some (v, r)) : valP (u ++ t) = some (v, r ++ t) := by
  cases u with
  | nil =>
    rw [valP] at hu
    injection hu with hu
    injection hu with h1 h2
    subst h1; subst h2
    rcases h with rfl | ⟨c, u, rfl, hc⟩
    · rfl
    · rw [List.nil_append, valP, if_neg (blank_not c hc).2.2, plainN_bf (c :: u) (.inr ⟨c, u, rfl, hc⟩)]
      rfl
  | cons e u =>
    rw [valP] at hu
    rw [List.cons_append, valP]
    by_cases he : e = 34
    · rw [if_pos he] at hu ⊢
      cases hq : qEnd u with
      | none => rw [hq] at hu; cases hu
      | some q =>
        have hq2 := qEnd_le u.length u q (Nat.le_refl _) hq
        rw [hq] at hu
        rw [qEnd_app t u.length u q (Nat.le_refl _) hq]
        simp only at hu ⊢
        rw [List.take_append_of_le_length hq2.2, List.drop_append_of_le_length hq2.2]
        obtain ⟨w, hw, e2⟩ := Option.map_eq_some_iff.1 hu
        injection e2 with e3 e4
        rw [hw, ← e3, ← e4]; rfl
    · have hn := plainN_le (e :: u)
      rw [if_neg he] at hu ⊢
      injection hu with hu
      injection hu with h1 h2
      rw [← h1, ← h2, ← List.cons_append, plainN_bfapp t h, List.take_append_of_le_length hn, List.drop_append_of_le_length hn]
theorem valP_bad (t : List UInt8) (h : ∀ c ∈ t, c.toNat ≤ 32) (u : List UInt8) (hu : valP u = none) : valP (u ++ t) = none := by
  cases u with
  | nil => cases hu
  | cons e u =>
    rw [valP] at hu
    rw [List.cons_append, valP]
    by_cases he : e = 34
    · rw [if_pos he] at hu ⊢
      cases hq : qEnd u with
      | none => rw [qEnd_bad t (fun c hc => (blank_not c (h c hc)).2.2) u.length u (Nat.le_refl _) hq]
      | some q =>
        have hq2 := qEnd_le u.length u q (Nat.le_refl _) hq
        rw [hq] at hu
        rw [qEnd_app t u.length u q (Nat.le_refl _) hq]
        simp only at hu ⊢
        rw [List.take_append_of_le_length hq2.2, Option.map_eq_none_iff.1 hu]; rfl
    · rw [if_neg he] at hu; cases hu
theorem pairP_app (t : List UInt8) (h : BF t) (l : List UInt8) (p : List UInt8 × ByteArray × List UInt8) (hp : pairP l = some p) : pairP (l ++ t) = some (p.1, p.2.1, p.2.2 ++ t) := by
  have hn := plainN_le l
  unfold pairP at hp ⊢
  rw [plainN_bfapp t h]
  by_cases h0 : plainN l = 0
  · rw [if_pos h0] at hp; cases hp
  · rw [if_neg h0] at hp ⊢
    rw [List.take_append_of_le_length hn, List.drop_append_of_le_length hn]
    generalize l.take (plainN l) = key at hp
    generalize l.drop (plainN l) = r at hp
    cases r with
    | nil =>
      rw [eqP] at hp
      injection hp with hp
      subst hp
      rcases h with rfl | ⟨c, u, rfl, hc⟩
      · rfl
      · rw [List.nil_append, eqP, if_neg (blank_not c hc).2.1]
    | cons c r =>
      rw [eqP] at hp
      rw [List.cons_append, eqP]
      by_cases hc : c = 61
      · rw [if_pos hc] at hp ⊢
        obtain ⟨⟨v, r2⟩, hv, e⟩ := Option.map_eq_some_iff.1 hp
        subst e
        rw [valP_app t h r v r2 hv]; rfl
      · rw [if_neg hc] at hp ⊢
        injection hp with hp
        subst hp
        rfl
theorem pairP_bad (t : List UInt8) (h : ∀ c ∈ t, c.toNat ≤ 32) (l : List UInt8) (hp : pairP l = none) : pairP (l ++ t) = none := by
  have hb : BF t := by
    cases t with
    | nil => exact .inl rfl
    | cons c u => exact .inr ⟨c, u, rfl, h c (by simp)⟩
  have hn := plainN_le l
  unfold pairP at hp ⊢
  rw [plainN_bfapp t hb]
  by_cases h0 : plainN l = 0
  · rw [if_pos h0]
  · rw [if_neg h0] at hp ⊢
    rw [List.take_append_of_le_length hn, List.drop_append_of_le_length hn]
    generalize l.take (plainN l) = key at hp
    generalize l.drop (plainN l) = r at hp
    cases r with
    | nil => cases hp
    | cons c r =>
      rw [eqP] at hp
      rw [List.cons_append, eqP]
      by_cases hc : c = 61
      · rw [if_pos hc] at hp ⊢
        rw [valP_bad t h r (Option.map_eq_none_iff.1 hp)]; rfl
      · rw [if_neg hc] at hp; cases hp
theorem valP_len (u : List UInt8) (p : ByteArray × List UInt8) (h : valP u = some p) : p.2.length ≤ u.length := by
  cases u with
  | nil => rw [valP] at h; injection h with h; subst h; exact Nat.le_refl _
  | cons e u =>
    rw [valP] at h
    split at h
    · split at h
      · cases h
      · obtain ⟨w, hw, e2⟩ := Option.map_eq_some_iff.1 h
        subst e2
        show (u.drop _).length ≤ (e :: u).length
        rw [List.length_drop, List.length_cons]; omega
    · injection h with h; subst h
      show ((e :: u).drop _).length ≤ _
      rw [List.length_drop]; omega
theorem pairP_len (l : List UInt8) (p : List UInt8 × ByteArray × List UInt8) (h : pairP l = some p) : p.2.2.length < l.length ∧ p.1.length ≤ l.length := by
  have hn := plainN_le l
  unfold pairP at h
  by_cases h0 : plainN l = 0
  · rw [if_pos h0] at h; cases h
  · rw [if_neg h0] at h
    have e1 : (l.take (plainN l)).length ≤ l.length := by rw [List.length_take]; omega
    have e2 : (l.drop (plainN l)).length < l.length := by rw [List.length_drop]; omega
    generalize l.take (plainN l) = key at h e1
    generalize l.drop (plainN l) = r at h e2
    cases r with
    | nil => rw [eqP] at h; injection h with h; subst h; exact ⟨e2, e1⟩
    | cons c r =>
      rw [eqP] at h
      rw [List.length_cons] at e2
      split at h
      · obtain ⟨q, hq, e3⟩ := Option.map_eq_some_iff.1 h
        have := valP_len r q hq
        subst e3
        exact ⟨by show q.2.length < _; omega, e1⟩
      · injection h with h; subst h; exact ⟨by show (c :: r).length < _; rw [List.length_cons]; omega, e1⟩

/-! The pairs of a line. -/
def toks : Nat → Bool → List UInt8 → Option (List (ByteArray × ByteArray))
  | 0, _, _ => none
  | n + 1, ap, l => if l = [] then some [] else match pairP l with
    | none => none
    | some p => if ap = true then (toks n (decide ((skipP p.2.2).length < p.2.2.length)) (skipP p.2.2)).map ((mkB (cleanP p.1), p.2.1) :: ·) else none
theorem toks_fuel : ∀ (n m : Nat) (ap : Bool) (l : List UInt8), l.length < n → l.length < m → toks n ap l = toks m ap l
  | 0, _, _, _, h, _ => by omega
  | _, 0, _, _, _, h => by omega
  | n + 1, m + 1, ap, l, h1, h2 => by
    rw [toks, toks]
    split
    · rfl
    · cases hp : pairP l with
      | none => rfl
      | some p =>
        have hl := (pairP_len l p hp).1
        have hs := skipP_len p.2.2
        simp only
        rw [toks_fuel n m _ (skipP p.2.2) (by omega) (by omega)]
def tokz (ap : Bool) (l : List UInt8) : Option (List (ByteArray × ByteArray)) := toks (l.length + 1) ap l
theorem tokz_nil (ap : Bool) : tokz ap [] = some [] := rfl
theorem tokz_none (ap : Bool) (l : List UInt8) (h : l ≠ []) (hp : pairP l = none) : tokz ap l = none := by
  unfold tokz; rw [toks, if_neg h, hp]
theorem tokz_close (l : List UInt8) (h : l ≠ []) : tokz false l = none := by
  unfold tokz; rw [toks, if_neg h]
  cases pairP l <;> rfl
theorem tokz_step (l : List UInt8) (h : l ≠ []) (p : List UInt8 × ByteArray × List UInt8) (hp : pairP l = some p) : tokz true l = (tokz (decide ((skipP p.2.2).length < p.2.2.length)) (skipP p.2.2)).map ((mkB (cleanP p.1), p.2.1) :: ·) := by
  have hl := (pairP_len l p hp).1
  have hs := skipP_len p.2.2
  unfold tokz; rw [toks, if_neg h, hp]
  simp only
  rw [if_pos trivial, toks_fuel l.length ((skipP p.2.2).length + 1) _ (skipP p.2.2) (by omega) (by omega)]
theorem skipP_ne (l t : List UInt8) (h : skipP l = [] ∨ True) : True := trivial

/-- A text behind a line. -/
theorem tokz_app (t : List UInt8) (h : BF t) : ∀ (n : Nat) (l : List UInt8) (ap : Bool) (ts : List (ByteArray × ByteArray)), l.length ≤ n → l ≠ [] → tokz ap l = some ts → tokz ap (l ++ t) = (tokz true (skipP t)).map (ts ++ ·)
  | n, l, false, ts, _, hl, ht => by rw [tokz_close l hl] at ht; cases ht
  | 0, l, true, ts, hn, hl, _ => absurd (List.eq_nil_of_length_eq_zero (by omega)) hl
  | n + 1, l, true, ts, hn, hl, ht => by
    cases hp : pairP l with
    | none => rw [tokz_none true l hl hp] at ht; cases ht
    | some p =>
      have hlen := (pairP_len l p hp).1
      have hsl := skipP_len p.2.2
      rw [tokz_step l hl p hp] at ht
      have hne : l ++ t ≠ [] := fun e => hl (List.append_eq_nil_iff.1 e).1
      rw [tokz_step (l ++ t) hne _ (pairP_app t h l p hp)]
      simp only
      obtain ⟨ts2, h2, rfl⟩ := Option.map_eq_some_iff.1 ht
      rw [skipP_app]
      by_cases hs : skipP p.2.2 = []
      · rw [if_pos hs]
        rw [hs, tokz_nil] at h2
        injection h2 with h2
        subst h2
        rcases h with rfl | ⟨c, u, rfl, hc⟩
        · rfl
        · have e1 : skipP (c :: u) = skipP u := by rw [skipP_cons, if_pos hc]
          have e2 := skipP_len u
          rw [e1, decide_eq_true (show (skipP u).length < (p.2.2 ++ c :: u).length by rw [List.length_append, List.length_cons]; omega)]
          cases tokz true (skipP u) <;> rfl
      · rw [if_neg hs, show decide ((skipP p.2.2 ++ t).length < (p.2.2 ++ t).length) = decide ((skipP p.2.2).length < p.2.2.length) from decide_eq_decide.2 (by rw [List.length_append, List.length_append]; omega)]
        rw [tokz_app t h n (skipP p.2.2) _ ts2 (by omega) hs h2]
        cases tokz true (skipP t) <;> rfl
/-- Blanks behind what is no line. -/
theorem tokz_bad (t : List UInt8) (h : ∀ c ∈ t, c.toNat ≤ 32) : ∀ (n : Nat) (l : List UInt8) (ap : Bool), l.length ≤ n → tokz ap l = none → l ≠ [] ∧ tokz ap (l ++ t) = none
  | n, [], ap, _, ht => by rw [tokz_nil] at ht; cases ht
  | 0, c :: l, ap, hn, _ => by simp at hn
  | n + 1, c :: l, ap, hn, ht => by
    refine ⟨List.cons_ne_nil _ _, ?_⟩
    have hl : c :: l ≠ [] := List.cons_ne_nil _ _
    generalize c :: l = l at hn ht hl
    have hne : l ++ t ≠ [] := fun e => hl (List.append_eq_nil_iff.1 e).1
    have hb : BF t := by
      cases t with
      | nil => exact .inl rfl
      | cons c u => exact .inr ⟨c, u, rfl, h c (by simp)⟩
    cases ap with
    | false => exact tokz_close _ hne
    | true =>
      cases hp : pairP l with
      | none => exact tokz_none true _ hne (pairP_bad t h l hp)
      | some p =>
        have hlen := (pairP_len l p hp).1
        have hsl := skipP_len p.2.2
        rw [tokz_step l hl p hp] at ht
        obtain ⟨h1, h2⟩ := tokz_bad t h n (skipP p.2.2) _ (by omega) (Option.map_eq_none_iff.1 ht)
        rw [tokz_step _ hne _ (pairP_app t hb l p hp)]
        simp only
        rw [skipP_app, if_neg h1, show decide ((skipP p.2.2 ++ t).length < (p.2.2 ++ t).length) = decide ((skipP p.2.2).length < p.2.2.length) from decide_eq_decide.2 (by rw [List.length_append, List.length_append]; omega), h2]
        rfl

/-! What Parse answers. -/
def parseR (out : List Lab) : Option (List (ByteArray × ByteArray)) → List Lab × Bool
  | some ts => (foldS ts out, true)
  | none => ([], false)
theorem loop_toks (kk : Nat) : ∀ (n : Nat) (l : List UInt8) (out : List Lab) (ap : Bool), l.length < n → l.length + 2 ≤ kk → l.length ≤ 100000 → InO out → out.length + l.length ≤ 900000 →
    P.parseLoop kk n out ap (mkB l) = some (parseR out (toks n ap l))
  | 0, _, _, _, h, _, _, _, _ => by omega
  | n + 1, [], out, ap, _, _, _, _, _ => by rw [P.parseLoop, if_pos mkB_nil, toks, if_pos rfl]; rfl
  | n + 1, c :: l, out, ap, h1, h2, h3, hI, h4 => by
    rw [P.parseLoop, if_neg (mkB_ne c l), toks, if_neg (List.cons_ne_nil _ _)]
    generalize c :: l = l at h1 h2 h3 h4
    rcases pair_f l (by omega) kk h2 with ⟨p, hp, hf⟩ | ⟨hp, a, b, d, hf⟩
    · rw [hf, hp, Option.bind_some]
      simp only
      rw [if_pos trivial]
      cases ap with
      | false => rfl
      | true =>
        have hlen := pairP_len l p hp
        have hsl := skipP_len p.2.2
        have hcl : P.labels_Clean.f (mkB p.1) = some (mkB (cleanP p.1)) := by
          unfold P.labels_Clean.f; rw [if_pos (show (mkB p.1).size ≤ 1000000 from Nat.le_trans hlen.2 (by omega))]
        have hsp := setP_len out (mkB (cleanP p.1)) p.2.1
        rw [if_pos rfl, if_pos rfl, hcl, Option.bind_some, set_f out (by omega) hI, Option.bind_some, skip_f p.2.2 kk (by omega), Option.bind_some]
        simp only
        rw [loop_toks kk n (skipP p.2.2) _ _ (by omega) (by omega) (by omega) (setP_in out _ _ hI) (by omega)]
        cases toks n (decide ((skipP p.2.2).length < p.2.2.length)) (skipP p.2.2) <;> rfl
    · rw [hf, hp, Option.bind_some]
      rfl
theorem inO_nil : InO [] := ⟨List.Pairwise.nil, fun x hx => by cases hx⟩
theorem parse_f (l : List UInt8) (hl : l.length ≤ 100000) : P.logfmt_Parse.f (mkB l) = some (parseR [] (tokz true (skipP l))) := by
  have hs := skipP_len l
  have hz : (mkB l).size = l.length := rfl
  unfold P.logfmt_Parse.f
  rw [hz, skip_f l _ (by omega), Option.bind_some]
  simp only
  rw [loop_toks (3 * l.length + 100) (l.length + 1) (skipP l) [] true (by omega) (by omega) (by omega) inO_nil (by simp; omega)]
  unfold tokz
  rw [toks_fuel (l.length + 1) ((skipP l).length + 1) true (skipP l) (by omega) (by omega)]
theorem toks_len : ∀ (n : Nat) (ap : Bool) (l : List UInt8) (ts : List (ByteArray × ByteArray)), toks n ap l = some ts → ts.length ≤ l.length
  | 0, _, _, _, h => by cases h
  | n + 1, ap, l, ts, h => by
    rw [toks] at h
    split at h
    · injection h with h; subst h; exact Nat.zero_le _
    · cases hp : pairP l with
      | none => rw [hp] at h; cases h
      | some p =>
        have hlen := (pairP_len l p hp).1
        have hsl := skipP_len p.2.2
        rw [hp] at h
        simp only at h
        split at h
        · obtain ⟨ts2, h2, rfl⟩ := Option.map_eq_some_iff.1 h
          have := toks_len n _ _ ts2 h2
          rw [List.length_cons]; omega
        · cases h
end Go.Proofs.YtnmofpefofkoeaaGreatDoor
set_option linter.unusedVariables false
namespace Go.Proofs.YtnmofpefofkoeaaGreatDoor
open Go Go.RowKit Go.Lib Go.Proofs.YtnmofpefofkoeaaGreatDoorW.PrintWords Go.Proofs.YtnmofpefofkoeaaGreatDoorW.PrintLast Go.Proofs.YtnmofpefofkoeaaGreatDoorW.PrintMore Go.Proofs.YtnmofpefofkoeaaGreatDoor.P

theorem qp_len {r : Int} {l : List UInt8} (h : Kind r l) : l.length ≤ (qp r l).length ∧ (qp r l).length ≤ 4 * l.length := by
  have h1 : 1 ≤ l.length := by
    cases h with
    | ascii c h => exact Nat.le_refl 1
    | multi r l a b c d e f => omega
    | bad c h => exact Nat.le_refl 1
  have hm : l.length = 1 ∨ 128 ≤ r := by
    cases h with
    | ascii c h => exact .inl rfl
    | multi r l a b c d e f => exact .inr (by omega)
    | bad c h => exact .inl rfl
  unfold qp
  repeat' split
  all_goals (try simp only [List.length_cons, List.length_nil])
  all_goals omega

theorem flat_len2 : ∀ (ps : List (Int × ByteArray)), (∀ x ∈ ps, Kind x.1 x.2.data.toList) → (ps.flatMap fun x => x.2.data.toList).length ≤ (ps.flatMap quotePiece).length ∧ (ps.flatMap quotePiece).length ≤ 4 * (ps.flatMap fun x => x.2.data.toList).length
  | [], _ => by simp
  | x :: ps, h => by
    have a := qp_len (h x (by simp))
    have b := flat_len2 ps fun y hy => h y (by simp [hy])
    rw [List.flatMap_cons, List.flatMap_cons, List.length_append, List.length_append, quotePiece_qp]
    omega
/-- In such a text a mark stands behind a slash alone. -/
def QOK (p : List UInt8) : Prop := ∀ t, qEnd (p ++ t) = (qEnd t).map (· + p.length)
theorem qok_nil : QOK [] := fun t => by
  rw [List.nil_append]
  cases qEnd t <;> rfl
theorem qok_app {a b : List UInt8} (ha : QOK a) (hb : QOK b) : QOK (a ++ b) := fun t => by
  rw [List.append_assoc, ha, hb, List.length_append]
  cases qEnd t with
  | none => rfl
  | some q => simp only [Option.map_some]; congr 1; omega
theorem qok_plain : ∀ l : List UInt8, (∀ c ∈ l, c ≠ 34 ∧ c ≠ 92) → QOK l
  | [], _ => qok_nil
  | c :: l, h => fun t => by
    obtain ⟨h1, h2⟩ := h c (by simp)
    rw [List.cons_append, qEnd_cons c _ h2, if_neg h1, qok_plain l (fun d hd => h d (by simp [hd])) t, List.length_cons]
    cases qEnd t with
    | none => rfl
    | some q => simp only [Option.map_some]; congr 1
theorem qok_slash (c : UInt8) : QOK [92, c] := fun t => by
  show qEnd (92 :: c :: t) = _
  rw [qEnd_slash]; rfl
theorem hexByte_ok : ∀ k : Fin 16, hexByte k.val ≠ 34 ∧ hexByte k.val ≠ 92 := by decide +kernel
theorem qok_hex (n : Nat) (hn : n < 256) : QOK [92, 120, hexByte (n / 16), hexByte (n % 16)] := by
  have a := hexByte_ok ⟨n / 16, by omega⟩
  have b := hexByte_ok ⟨n % 16, by omega⟩
  refine qok_app (a := [92, 120]) (b := [hexByte (n / 16), hexByte (n % 16)]) (qok_slash 120) (qok_plain _ fun c hc => ?_)
  simp only [List.mem_cons, List.not_mem_nil, or_false] at hc
  rcases hc with rfl | rfl
  · exact a
  · exact b
theorem qok_qp {r : Int} {l : List UInt8} (h : Kind r l) : QOK (qp r l) := by
  cases h with
  | ascii c hc =>
    unfold qp
    by_cases h34 : c.toNat = 34
    · rw [if_pos (by omega)]; exact qok_slash c
    · rw [if_neg (by omega)]
      by_cases h92 : c.toNat = 92
      · rw [if_pos (by omega)]; exact qok_slash c
      · rw [if_neg (by omega)]
        by_cases h10 : c.toNat = 10
        · rw [if_pos (by omega)]; exact qok_slash 110
        · rw [if_neg (by omega)]
          by_cases h13 : c.toNat = 13
          · rw [if_pos (by omega)]; exact qok_slash 114
          · rw [if_neg (by omega)]
            by_cases h9 : c.toNat = 9
            · rw [if_pos (by omega)]; exact qok_slash 116
            · rw [if_neg (by omega)]
              by_cases hh : c.toNat < 32 ∨ c.toNat = 127
              · rw [if_pos (by omega)]; exact qok_hex c.toNat (by omega)
              · rw [if_neg (by omega)]
                exact qok_plain [c] fun x hx => by
                  simp only [List.mem_cons, List.not_mem_nil, or_false] at hx
                  subst hx
                  exact ⟨fun e => h34 (by rw [e]; rfl), fun e => h92 (by rw [e]; rfl)⟩
  | multi r l h1 h2 hs he hb hl =>
    unfold qp
    rw [if_neg (by omega), if_neg (by omega), if_neg (by omega), if_neg (by omega), if_neg (by omega), if_neg (by omega)]
    exact qok_plain l fun c hc => by
      have := hb c hc
      exact ⟨fun e => by rw [e] at this; exact absurd this (by decide), fun e => by rw [e] at this; exact absurd this (by decide)⟩
  | bad c hc =>
    unfold qp
    rw [if_neg (by decide), if_neg (by decide), if_neg (by decide), if_neg (by decide), if_neg (by decide), if_pos (by right; right; exact ⟨rfl, rfl⟩)]
    exact qok_hex c.toNat c.toNat_lt
theorem qok_body : ∀ (ps : List (Int × ByteArray)), (∀ x ∈ ps, Kind x.1 x.2.data.toList) → QOK (ps.flatMap quotePiece)
  | [], _ => qok_nil
  | x :: ps, h => by
    rw [List.flatMap_cons, quotePiece_qp]
    exact qok_app (qok_qp (h x (by simp))) (qok_body ps fun y hy => h y (by simp [hy]))
theorem val_quote (s : ByteArray) (t : List UInt8) : valP (quoteBytes s ++ t) = some (s, t) := by
  have hu := unquote_quote s
  have hq := qok_body (piecesOf s) (kinds s) (34 :: t)
  unfold quoteBytes at hu ⊢
  generalize (piecesOf s).flatMap quotePiece = B at hu hq
  have e : (34 :: B ++ [34]) ++ t = 34 :: (B ++ 34 :: t) := by simp
  have et : (B ++ 34 :: t).take (1 + B.length) = B ++ [34] := by
    rw [Nat.add_comm, show B ++ 34 :: t = (B ++ [34]) ++ t by simp, List.take_append_of_le_length (by simp), List.take_of_length_le (by simp)]
  have ed : (B ++ 34 :: t).drop (1 + B.length) = t := by
    rw [Nat.add_comm, show B ++ 34 :: t = (B ++ [34]) ++ t by simp, show B.length + 1 = (B ++ [34]).length by simp, List.drop_left]
  have h1 : qEnd (34 :: t) = some 1 := by rw [qEnd_cons 34 t (by decide), if_pos rfl]
  rw [h1] at hq
  rw [e, valP, if_pos rfl, hq]
  simp only [Option.map_some]
  have hu2 : unquoteP (mkB (34 :: (B ++ [34]))) = some s.data.toList := hu
  rw [et, ed, hu2]
  simp only [Option.map_some]
  try rw [show mkB s.data.toList = s from (mk_data s).symm]

/-! Names that are clean. -/
def Cl (m : List UInt8) : Prop := m ≠ [] ∧ (∀ c ∈ m, inNameB c.toNat = true) ∧ (∀ c t, m = c :: t → isDigB c.toNat = false) ∧ m.length ≤ 64
theorem cleanB_in (c : UInt8) : inNameB (cleanB c).toNat = true := by
  unfold cleanB
  by_cases h : inNameB c.toNat = true
  · rw [if_pos h]; exact h
  · rw [if_neg h]; decide
theorem clean_cl (l : List UInt8) : Cl (cleanP l) := by
  have hin : ∀ c ∈ l.map cleanB, inNameB c.toNat = true := fun c hc => by
    obtain ⟨d, _, rfl⟩ := List.mem_map.1 hc
    exact cleanB_in d
  unfold cleanP
  generalize l.map cleanB = m at hin
  cases m with
  | nil => exact ⟨by decide, by decide, fun c t h => by injection h with h1 h2; subst h1; decide, by decide⟩
  | cons c m =>
    simp only
    by_cases hd : isDigB c.toNat = true
    · rw [if_pos hd]
      refine ⟨by simp, fun d h => ?_, fun d t h => ?_, by rw [List.length_take]; omega⟩
      · rcases List.mem_cons.1 (List.mem_of_mem_take h) with rfl | h
        · decide
        · exact hin d h
      · rw [List.take_succ_cons] at h
        injection h with h1 h2
        subst h1; decide
    · rw [if_neg hd]
      refine ⟨by simp, fun d h => hin d (List.mem_of_mem_take h), fun d t h => ?_, by rw [List.length_take]; omega⟩
      rw [List.take_succ_cons] at h
      injection h with h1 h2
      subst h1
      simpa using hd
theorem clean_id (m : List UInt8) (h : Cl m) : cleanP m = m := by
  obtain ⟨h0, h1, h2, h3⟩ := h
  have e : m.map cleanB = m := by
    rw [List.map_congr_left (g := id) (fun c hc => by unfold cleanB; rw [if_pos (h1 c hc)]; rfl), List.map_id]
  unfold cleanP
  rw [e]
  cases m with
  | nil => exact absurd rfl h0
  | cons c m =>
    simp only
    rw [if_neg (by rw [h2 c m rfl]; decide), List.take_of_length_le h3]
theorem name_all : ∀ c : Fin 256, inNameB c.val = true → plainB (UInt8.ofNat c.val) = true ∧ 32 < c.val := by decide +kernel
theorem name_plain (c : UInt8) (h : inNameB c.toNat = true) : plainB c = true ∧ 32 < c.toNat := by
  have := name_all ⟨c.toNat, c.toNat_lt⟩ h
  simpa using this

/-! Lines of such pairs. -/
structure It where
  b : List UInt8
  name : List UInt8
  value : ByteArray
structure ItOk (it : It) : Prop where
  b0 : it.b ≠ []
  bb : ∀ c ∈ it.b, c.toNat ≤ 32
  b3 : it.b.length ≤ 3
  cl : Cl it.name
  v : it.value.size ≤ 200
def itemB (it : It) : List UInt8 := it.b ++ (it.name ++ 61 :: quoteBytes it.value)
def lineB (its : List It) : List UInt8 := its.flatMap itemB
def itsP2 (its : List It) : List (ByteArray × ByteArray) := its.map fun it => (mkB it.name, it.value)
theorem quote_len (s : ByteArray) : (quoteBytes s).length ≤ 4 * s.size + 2 := by
  have hl := flat_len2 (piecesOf s) (kinds s)
  have hf : ((piecesOf s).flatMap fun x => x.2.data.toList) = s.data.toList := (kinds_flat s.size s (Nat.le_refl _)).2
  rw [hf] at hl
  have : s.data.toList.length = s.size := (Lib.size_eq s).symm
  unfold quoteBytes
  simp only [List.cons_append, List.length_cons, List.length_append, List.length_nil]
  omega
theorem item_len (it : It) (h : ItOk it) : (itemB it).length ≤ 870 := by
  have h1 := quote_len it.value
  have h2 := h.b3
  have h3 := h.cl.2.2.2
  have h4 := h.v
  unfold itemB
  simp only [List.length_append, List.length_cons]
  omega
theorem line_len : ∀ its : List It, (∀ it ∈ its, ItOk it) → (lineB its).length ≤ 870 * its.length
  | [], _ => Nat.zero_le _
  | it :: its, h => by
    have h1 := item_len it (h it (by simp))
    have h2 := line_len its (fun x hx => h x (by simp [hx]))
    unfold lineB at h2 ⊢
    rw [List.flatMap_cons, List.length_append, List.length_cons]; omega
theorem line_toks : ∀ (its : List It), (∀ it ∈ its, ItOk it) → ∀ ap, (its = [] ∨ ap = true) → tokz ap (skipP (lineB its)) = some (itsP2 its)
  | [], _, _, _ => rfl
  | it :: its, h, ap, ha => by
    have hi := h it (by simp)
    have ih := line_toks its (fun x hx => h x (by simp [hx]))
    obtain ⟨n0, n1, n2, n3⟩ := hi.cl
    have hap : ap = true := ha.resolve_left (by simp)
    subst hap
    have e1 : lineB (it :: its) = it.b ++ (it.name ++ 61 :: (quoteBytes it.value ++ lineB its)) := by
      unfold lineB itemB; simp
    have e2 : skipP (it.name ++ 61 :: (quoteBytes it.value ++ lineB its)) = it.name ++ 61 :: (quoteBytes it.value ++ lineB its) := by
      cases hn : it.name with
      | nil => exact absurd hn n0
      | cons c t =>
        have := (name_plain c (n1 c (by rw [hn]; simp))).2
        rw [List.cons_append, skipP_cons, if_neg (by omega)]
    rw [e1, skipP_app, skipP_blank it.b hi.bb, if_pos rfl, e2]
    have hpl : plainN (it.name ++ 61 :: (quoteBytes it.value ++ lineB its)) = it.name.length := plainN_app _ _ (fun c hc => (name_plain c (n1 c hc)).1) 61 (by decide)
    have hnl : it.name.length ≠ 0 := fun e => n0 (List.eq_nil_of_length_eq_zero e)
    have hp : pairP (it.name ++ 61 :: (quoteBytes it.value ++ lineB its)) = some (it.name, it.value, lineB its) := by
      unfold pairP
      rw [hpl, if_neg hnl, List.take_left, List.drop_left, eqP, if_pos rfl, val_quote]; rfl
    have hne : it.name ++ 61 :: (quoteBytes it.value ++ lineB its) ≠ [] := fun e => n0 (List.append_eq_nil_iff.1 e).1
    rw [tokz_step _ hne _ hp]
    simp only
    rw [ih _ (by
      cases its with
      | nil => exact .inl rfl
      | cons it2 its =>
        right
        have hb := h it2 (by simp)
        have e3 : lineB (it2 :: its) = it2.b ++ (it2.name ++ 61 :: quoteBytes it2.value ++ lineB its) := by unfold lineB itemB; simp
        refine decide_eq_true ?_
        rw [e3, skipP_app, skipP_blank it2.b hb.bb, if_pos rfl]
        have := skipP_len (it2.name ++ 61 :: quoteBytes it2.value ++ lineB its)
        have hb0 : it2.b.length ≠ 0 := fun e => hb.b0 (List.eq_nil_of_length_eq_zero e)
        rw [List.length_append]; omega), clean_id it.name hi.cl]
    rfl
theorem line_parse (its : List It) (h : ∀ it ∈ its, ItOk it) (hl : its.length ≤ 30) : P.logfmt_Parse.f (mkB (lineB its)) = some (foldS (itsP2 its) [], true) := by
  have := line_len its h
  rw [parse_f _ (by omega), line_toks its h true (.inr rfl)]
  rfl
end Go.Proofs.YtnmofpefofkoeaaGreatDoor
set_option linter.unusedVariables false
namespace Go.Proofs.YtnmofpefofkoeaaGreatDoor.P
open Go
def driftnetlaw16_LogfmtBack.Pure : Prop := ∀ (l0 : List S35) (l1 : List Int), l0.length ≤ maxLen → l1.length ≤ maxLen → ∃ k, driftnetlaw16_LogfmtBack.f k l0 l1 = some true
end Go.Proofs.YtnmofpefofkoeaaGreatDoor.P
namespace Go.Proofs.YtnmofpefofkoeaaGreatDoor
open Go Go.RowKit Go.Lib Go.Proofs.YtnmofpefofkoeaaGreatDoorW.PrintWords Go.Proofs.YtnmofpefofkoeaaGreatDoorW.PrintLast Go.Proofs.YtnmofpefofkoeaaGreatDoorW.PrintMore Go.Proofs.YtnmofpefofkoeaaGreatDoor.P

theorem bbring_f (a m : Int) (h1 : 0 < m) (h2 : m ≤ 4) : ∃ t, P.driftnetref00_Bring.f a m = some t ∧ 0 ≤ t ∧ t < m := by
  unfold P.driftnetref00_Bring.f
  have e1 := Int.tmod_lt_of_pos a h1
  have e2 : -m < Int.tmod a m := Int.lt_tmod_of_pos a h1
  generalize Int.tmod a m = t at e1 e2
  rw [if_neg (by omega), if_neg (by omega)]
  split
  · exact ⟨_, rfl, by unfold wrap64; omega, by unfold wrap64; omega⟩
  · exact ⟨_, rfl, by omega, e1⟩
def bblankC (i : Nat) : UInt8 := ([32, 9, 10, 0] : List UInt8).getD i 0
theorem brep_all : ∀ (i : Fin 4) (j : Fin 3), P.strings_Repeat.f (rdOf ByteArray.empty [(⟨#[32]⟩ : ByteArray), (⟨#[9]⟩ : ByteArray), (⟨#[10]⟩ : ByteArray), (⟨#[0]⟩ : ByteArray)] (i.val : Int)) (wrap64 (1 + (j.val : Int))) = some (mkB (List.replicate (j.val + 1) (bblankC i.val))) := by decide +kernel
theorem bblank_le : ∀ i : Fin 4, (bblankC i.val).toNat ≤ 32 := by decide
theorem bblanks_f (n : Int) : ∃ b : List UInt8, P.driftnetlaw16_blanks.f n = some (mkB b) ∧ b ≠ [] ∧ b.length ≤ 3 ∧ ∀ c ∈ b, c.toNat ≤ 32 := by
  unfold P.driftnetlaw16_blanks.f
  obtain ⟨t, ht, t0, t4⟩ := bbring_f n 4 (by decide) (by decide)
  obtain ⟨u, hu, u0, u3⟩ := bbring_f (wrap64 (Int.tdiv n 4)) 3 (by decide) (by decide)
  obtain ⟨i, rfl⟩ : ∃ i : Nat, t = (i : Int) := ⟨t.toNat, by omega⟩
  obtain ⟨j, rfl⟩ : ∃ j : Nat, u = (j : Int) := ⟨u.toNat, by omega⟩
  have hr := brep_all ⟨i, by omega⟩ ⟨j, by omega⟩
  have hb := bblank_le ⟨i, by omega⟩
  simp only at hr hb
  simp only [Option.bind_some]
  rw [ht, Option.bind_some, if_pos t0, if_pos (show (i : Int) < (([(⟨#[32]⟩ : ByteArray), (⟨#[9]⟩ : ByteArray), (⟨#[10]⟩ : ByteArray), (⟨#[0]⟩ : ByteArray)] : List ByteArray).length : Int) from t4), hu, Option.bind_some, hr, Option.bind_some]
  refine ⟨_, rfl, by simp, by rw [List.length_replicate]; omega, fun c hc => ?_⟩
  rw [List.eq_of_mem_replicate hc]; exact hb
theorem bmkB_app (a b : List UInt8) : mkB a ++ mkB b = mkB (a ++ b) := by
  refine bax_ext ?_
  rw [ByteArray.data_append, Array.toList_append]

theorem back_round (k : Nat) (l0 : List Lab) (l1 : List Int) (i : Nat) (hi : i < l0.length) (hs : i < 30) (X : ByteArray) (W : List Lab) (hX : X.size ≤ 30000) (hW : W.length ≤ 1000) (hI : InO W) :
    ∃ it, ItOk it ∧ P.driftnetlaw16_LogfmtBack.j1 (k + 1) l0 l1 X W (i : Int) true = P.driftnetlaw16_LogfmtBack.l0 k l0 l1 (X ++ mkB it.b ++ mkB it.name ++ ⟨#[61]⟩ ++ mkB (quoteBytes it.value)) (setP W (mkB it.name) it.value) ((i + 1 : Nat) : Int) := by
  have hw : wrap64 ((i : Int) + 1) = ((i + 1 : Nat) : Int) := by unfold wrap64; omega
  rw [P.driftnetlaw16_LogfmtBack.j1, if_pos rfl, rd_nat l0 i hi, hw]
  generalize l0[i] = x
  have hm1 : mn (x.f0.size : Int) 80 = ((min x.f0.size 80 : Nat) : Int) := by unfold mn; split <;> omega
  have hm2 : mn (x.f1.size : Int) 200 = ((min x.f1.size 200 : Nat) : Int) := by unfold mn; split <;> omega
  have hz1 : (x.f0.extract 0 (min x.f0.size 80)).size ≤ 1000000 := by rw [ByteArray.size_extract]; omega
  have hz2 : (x.f1.extract 0 (min x.f1.size 200)).size ≤ 200 := by rw [ByteArray.size_extract]; omega
  have p1 : (0 : Int) ≤ ((min x.f0.size 80 : Nat) : Int) := by omega
  have p2 : ((min x.f0.size 80 : Nat) : Int) ≤ (x.f0.size : Int) := by omega
  have p3 : (0 : Int) ≤ ((min x.f1.size 200 : Nat) : Int) := by omega
  have p4 : ((min x.f1.size 200 : Nat) : Int) ≤ (x.f1.size : Int) := by omega
  have hcl : P.labels_Clean.f (x.f0.extract 0 (min x.f0.size 80)) = some (mkB (cleanP (x.f0.extract 0 (min x.f0.size 80)).data.toList)) := by
    unfold P.labels_Clean.f; rw [if_pos hz1]
  have hnm := clean_cl (x.f0.extract 0 (min x.f0.size 80)).data.toList
  generalize cleanP (x.f0.extract 0 (min x.f0.size 80)).data.toList = nm at hcl hnm
  have hq : P.quote_Quote.f (x.f1.extract 0 (min x.f1.size 200)) = some (mkB (quoteBytes (x.f1.extract 0 (min x.f1.size 200)))) := by
    unfold P.quote_Quote.f; rw [if_pos (by omega)]
  rw [hm1, hm2]
  simp only [Int.toNat_natCast]
  rw [hcl, hq]
  generalize x.f1.extract 0 (min x.f1.size 200) = v at hz2
  have hql : (mkB (quoteBytes v)).size ≤ 802 := Nat.le_trans (quote_len v) (by omega)
  have hnl : (mkB nm).size ≤ 64 := hnm.2.2.2
  have h61 : (⟨#[61]⟩ : ByteArray).size = 1 := rfl
  have h32 : (⟨#[32]⟩ : ByteArray).size = 1 := rfl
  have hset := set_f W (by omega) hI (mkB nm) v
  by_cases h1 : (i : Int) < (l1.length : Int)
  · obtain ⟨b, hb, b0, b3, bb⟩ := bblanks_f (rd l1 (i : Int))
    have hbl : (mkB b).size ≤ 3 := b3
    refine ⟨⟨b, nm, v⟩, ⟨b0, bb, b3, hnm, hz2⟩, ?_⟩
    simp only
    generalize mkB (quoteBytes v) = Q at hql
    generalize mkB nm = N at hnl hset
    rw [if_pos h1, if_pos (by omega), hb, Option.bind_some]
    generalize mkB b = B at hbl
    rw [if_pos (by omega), if_pos p1, if_pos p2, Option.bind_some, if_pos p3, if_pos p4, if_pos (by omega), if_pos (by simp only [ByteArray.size_append]; omega), if_pos (by simp only [ByteArray.size_append]; omega), Option.bind_some, if_pos (by simp only [ByteArray.size_append, h61]; omega), hset, Option.bind_some]
  · refine ⟨⟨[32], nm, v⟩, ⟨by simp, by simp, by simp, hnm, hz2⟩, ?_⟩
    simp only
    have e32 : mkB [32] = (⟨#[32]⟩ : ByteArray) := rfl
    rw [e32]
    generalize mkB (quoteBytes v) = Q at hql
    generalize mkB nm = N at hnl hset
    rw [if_neg h1, if_pos (by omega), if_pos (by omega), if_pos p1, if_pos p2, Option.bind_some, if_pos p3, if_pos p4, if_pos (by omega), if_pos (by simp only [ByteArray.size_append, h32]; omega), if_pos (by simp only [ByteArray.size_append, h32]; omega), Option.bind_some, if_pos (by simp only [ByteArray.size_append, h61, h32]; omega), hset, Option.bind_some]
theorem back_l0 (l0 : List Lab) (l1 : List Int) : ∀ (d i m : Nat) (its : List It), min 30 l0.length - i = d → i ≤ min 30 l0.length → (∀ it ∈ its, ItOk it) → its.length = i → 2 * d + 100 ≤ m →
    P.driftnetlaw16_LogfmtBack.l0 m l0 l1 (mkB (lineB its)) (foldS (itsP2 its) []) (i : Int) = some true
  | 0, i, m, its, hd, hi, hok, hl, hm => by
    obtain ⟨m, rfl⟩ : ∃ n, m = n + 2 := ⟨m - 2, by omega⟩
    have hfl := foldS_len (itsP2 its) []
    have e1 : (itsP2 its).length = its.length := List.length_map _
    have e0 : ([] : List Lab).length = 0 := rfl
    have key : P.driftnetlaw16_LogfmtBack.j1 (m + 1) l0 l1 (mkB (lineB its)) (foldS (itsP2 its) []) (i : Int) false = some true := by
      rw [P.driftnetlaw16_LogfmtBack.j1, if_neg Bool.false_ne_true, line_parse its hok (by omega), Option.bind_some]
      simp only
      rw [if_pos trivial, same_refl _ (by omega) _ (by omega), Option.bind_some]
    rw [P.driftnetlaw16_LogfmtBack.l0]
    by_cases hlt : (i : Int) < (l0.length : Int)
    · rw [if_pos hlt, show decide ((i : Int) < 30) = false from decide_eq_false (by omega)]; exact key
    · rw [if_neg hlt]; exact key
  | d + 1, i, m, its, hd, hi, hok, hl, hm => by
    obtain ⟨m, rfl⟩ : ∃ n, m = n + 2 := ⟨m - 2, by omega⟩
    have hfl := foldS_len (itsP2 its) []
    have e1 : (itsP2 its).length = its.length := List.length_map _
    have e0 : ([] : List Lab).length = 0 := rfl
    have hll := line_len its hok
    obtain ⟨it, hit, he⟩ := back_round m l0 l1 i (by omega) (by omega) (mkB (lineB its)) (foldS (itsP2 its) []) (show (lineB its).length ≤ _ by omega) (by omega) (foldS_in _ _ inO_nil)
    rw [P.driftnetlaw16_LogfmtBack.l0, if_pos (by omega), show decide ((i : Int) < 30) = true from decide_eq_true (by omega), he]
    have el : mkB (lineB its) ++ mkB it.b ++ mkB it.name ++ ⟨#[61]⟩ ++ mkB (quoteBytes it.value) = mkB (lineB (its ++ [it])) := by
      rw [show (⟨#[61]⟩ : ByteArray) = mkB [61] from rfl, bmkB_app, bmkB_app, bmkB_app, bmkB_app]
      congr 2
      unfold lineB itemB
      simp
    have ef : setP (foldS (itsP2 its) []) (mkB it.name) it.value = foldS (itsP2 (its ++ [it])) [] := by
      unfold itsP2
      rw [List.map_append, foldS_app]; rfl
    rw [el, ef]
    exact back_l0 l0 l1 d (i + 1) m (its ++ [it]) (by omega) (by omega) (fun x hx => by
      rcases List.mem_append.1 hx with h | h
      · exact hok x h
      · rw [List.mem_singleton.1 h]; exact hit) (by simp; omega) (by omega)
theorem bworks_low : P.driftnetlaw16_works.f 3000 = some true := by decide +kernel
theorem logfmtBack_pure : P.driftnetlaw16_LogfmtBack.Pure := by
  intro l0 l1 h0 h1
  refine ⟨3000, ?_⟩
  unfold P.driftnetlaw16_LogfmtBack.f
  rw [bworks_low, Option.bind_some, if_pos rfl]
  exact back_l0 l0 l1 (min 30 l0.length) 0 3000 [] (by omega) (by omega) (fun x hx => by cases hx) rfl (by omega)
end Go.Proofs.YtnmofpefofkoeaaGreatDoor
namespace Go.Proofs.YtnmofpefofkoeaaGreatDoor.P
open Go Go.RowKit Go.Proofs.YtnmofpefofkoeaaGreatDoorW.PrintWords
theorem driftnetlaw16_LogfmtBack.walk (PU : driftnetlaw16_LogfmtBack.Pure) (A0 : Option Addr) (c0 : Nat) (l0 : List S35) (A1 : Option Addr) (c1 : Nat) (l1 : List Int) (w : World) (hG : Aside0 (G w)) (hr0 : Kd.C k35 w A0 l0.length l0) (hl0 : l0.length ≤ c0 ∧ l0.length ≤ maxLen) (hr1 : Kd.C (Kd.int .i64) w A1 l1.length l1) (hl1 : l1.length ≤ c1 ∧ l1.length ≤ maxLen) :
    Calls Tryz.prog 7 #[.slice A0 l0.length c0, .slice A1 l1.length c1] w fun e w' => e = .returned (.bool true) ∧ Below w.heap.size w w' := by
  obtain ⟨k, h⟩ := PU l0 l1 hl0.2 hl1.2
  exact driftnetlaw16_LogfmtBack.calls k A0 c0 l0 A1 c1 l1 true w hr0 hl0.1 hr1 hl1.1 hG h
end Go.Proofs.YtnmofpefofkoeaaGreatDoor.P
namespace Go.Proofs.YtnmofpefofkoeaaGreatDoor.logfmtBack
open Go Go.ChangeShapes Go.WideShapes Go.ChangeAt Go.RowKit
open Go.ChangeMaps (open_string shut_string)
set_option linter.unusedVariables false
theorem own : ownKnob Tryz.prog.godebug = none := by kernel_rfl
theorem laidOut : laidOutB Tryz.prog = true := by kernel_rfl
set_option maxRecDepth 100000 in
theorem lifted (PU : P.driftnetlaw16_LogfmtBack.Pure) (os : Os) (started : os.Started) (H : Type) (enc : TypeId × Value → H) :
    ReturnsInHanded {} Tryz.checked os 7 .any (fun w args => (Rows.logfmtBackSpec.pre enc Tryz.prog Tryz.f7 Rows.logfmtBackRow.domain false w args ∧ laidMetH Tryz.prog Rows.logfmtBackRow.laid w) ∧ sizedMet enc Tryz.prog Tryz.f7 (OpenSpec.ofChange Rows.logfmtBackSpec) false w args)
      (Rows.logfmtBackSpec.post enc Tryz.prog Tryz.f7 false true false false) := by
  refine returnsInHanded_of_change_and (C := Tryz.checked) (X := fun w _ => laidMetH Tryz.prog laidL w) (fun _ _ _ hh h => h.of_heap hh) own started (by kernel_rfl) Tryz.func7
    (ChangeSpec.witness_shaped (enc := enc) (C := Tryz.checked) (os := os) (X := fun w _ => laidMetH Tryz.prog laidL w) false (world0 os) #[.slice none 0 0, .slice none 0 0] 8 (world0_os _)
      (World.shaped_of_ZipB (by kernel_rfl) (by kernel_rfl)) (by kernel_rfl) (by kernel_rfl) (by kernel_rfl) (world0_met os _)) ?_
  intro W base args ds gs before hval0 hW hcnd hsz0 hL _
  have hsz : (DataW.weightsEach Tryz.prog (Tryz.f7.params.toList ++ Rows.logfmtBackSpec.plain.varTypes Tryz.prog) (ds ++ gs)).all (· ≤ reachBytes) = true := hsz0
  have hval : ∀ (j : Nat) t v, Tryz.f7.params[j]? = some t → args[j]? = some v → Value.okWide Tryz.prog W .any base t v := hval0
  have hW' := hW
  obtain ⟨p, q, hA0, hV, rfl, hfz, hnd⟩ := hW
  have hA : DataW.TrodAll enc Tryz.prog W 0 (fun _ => true) true Tryz.f7.params.toList args.toList ds p := hA0
  rw [Tryz.params7] at hA hval hsz
  obtain ⟨v0, vs0, d0, ds0, p0, q0, hargs, rfl, rfl, h0, r0⟩ := trodAll_cons hA
  obtain ⟨v1, vs1, d1, ds1, p1, q1, rfl, rfl, rfl, h1, r1⟩ := trodAll_cons r0
  obtain ⟨rfl, rfl, rfl⟩ := trodAll_nil r1
  obtain rfl : args = #[v0, v1] := by cases args; simp_all
  obtain ⟨rfl, rfl⟩ := trodVars_none hV
  obtain ⟨a0, len0, cap0, rfl⟩ := okWide_slice Tryz.underlying22 (hval 0 22 v0 rfl rfl)
  have k0 := h0
  have lt0 : ∀ x ∈ p0, x.block < W.heap.size := by obtain ⟨m, hm⟩ := k0; exact DataW.trod_lt m _ _ _ hm
  obtain ⟨z0, y0, x0, w0⟩ : ∃ ss : List Go.Proofs.YtnmofpefofkoeaaGreatDoor.P.S35, ss.length = len0 ∧ (ss.length ≤ cap0 ∧ ss.length ≤ maxLen) ∧ Go.Proofs.YtnmofpefofkoeaaGreatDoorW.PrintWords.Kd.C Go.Proofs.YtnmofpefofkoeaaGreatDoor.P.k35 W a0 ss.length ss := by
    obtain ⟨fuel, hf⟩ := h0
    rcases Go.Deep.open_slice_pairs Tryz.underlying22 Tryz.underlying35 (by kernel_rfl) rfl rfl (by kernel_rfl) (by kernel_rfl) hf with ⟨hcs, _⟩ | ⟨x, l, c, m, n, V0, V1, D0, D1, P0, P1, hcs, _, hl, hm, hmm, _, hcell⟩
    · simp [Value.cells] at hcs
      obtain ⟨rfl, rfl, rfl⟩ := hcs
      exact ⟨[], rfl, ⟨Nat.le_refl _, Nat.zero_le _⟩, Go.Proofs.YtnmofpefofkoeaaGreatDoorW.PrintWords.Kd.C_nil _ _⟩
    · simp [Value.cells] at hcs
      obtain ⟨rfl, rfl, rfl⟩ := hcs
      have hz2 : len0 ≤ m := by rw [hmm]; split <;> omega
      have each : ∀ i, i < len0 → ∃ q : ByteArray × ByteArray, W.cell? (x.add (i * 2)) = some (.string q.1) ∧ W.cell? (x.add (i * 2 + 1)) = some (.string q.2) := fun i hi => by
        obtain ⟨c0, c1, e0, e1⟩ := hcell i (by omega)
        obtain ⟨s0, g0, _⟩ := DataW.trod_string Tryz.underlying9 e0
        obtain ⟨s1, g1, _⟩ := DataW.trod_string Tryz.underlying9 e1
        exact ⟨(s0, s1), c0.trans (congrArg some (List.cons.inj g0).1), c1.trans (congrArg some (List.cons.inj g1).1)⟩
      obtain ⟨q, hq⟩ := Go.Deep.choose_lt each
      have hlt : ((List.range len0).map fun i => (⟨(q i).1, (q i).2⟩ : Go.Proofs.YtnmofpefofkoeaaGreatDoor.P.S35)).length = len0 := by rw [List.length_map, List.length_range]
      refine ⟨(List.range len0).map fun i => ⟨(q i).1, (q i).2⟩, hlt, ⟨by omega, by omega⟩, rfl, (by rw [hlt]; exact Nat.le_trans hl hm), fun _ => ⟨_, rfl, fun j p hj => ?_⟩⟩
      have hjl := (List.getElem?_eq_some_iff.1 hj).1
      rw [hlt] at hjl
      rw [List.getElem?_map, List.getElem?_range hjl] at hj
      injection hj with hj
      subst hj
      refine ⟨[.string (q j).1, .string (q j).2], rfl, Go.Proofs.YtnmofpefofkoeaaGreatDoor.P.k35_mk _ _, fun i u hu => ?_⟩
      have hi : i < 2 := (List.getElem?_eq_some_iff.1 hu).1
      rcases (show i = 0 ∨ i = 1 by omega) with rfl | rfl
      · have e : Value.string (q j).1 = u := Option.some.inj hu
        exact (hq j hjl).1.trans (congrArg some e)
      · have e : Value.string (q j).2 = u := Option.some.inj hu
        exact (hq j hjl).2.trans (congrArg some e)
  subst y0
  obtain ⟨a1, len1, cap1, rfl⟩ := okWide_slice Tryz.underlying38 (hval 1 38 v1 rfl rfl)
  have k1 := h1
  have lt1 : ∀ x ∈ p1, x.block < W.heap.size := by obtain ⟨m, hm⟩ := k1; exact DataW.trod_lt m _ _ _ hm
  obtain ⟨z1, y1, x1, w1⟩ : ∃ zs : List Int, zs.length = len1 ∧ (zs.length ≤ cap1 ∧ zs.length ≤ maxLen) ∧ Go.Proofs.YtnmofpefofkoeaaGreatDoorW.PrintWords.Kd.C (Go.Proofs.YtnmofpefofkoeaaGreatDoorW.PrintWords.Kd.int .i64) W a1 zs.length zs := by
    obtain ⟨fuel, hf⟩ := h1
    rcases open_ints Tryz.underlying38 Tryz.underlying3 (by kernel_rfl) hf with ⟨hcs, _⟩ | ⟨x, l, c, zs, hcs, _, hl, hm, hz, _, hcell, _⟩
    · simp [Value.cells] at hcs
      obtain ⟨rfl, rfl, rfl⟩ := hcs
      exact ⟨[], rfl, ⟨Nat.le_refl _, Nat.zero_le _⟩, Go.Proofs.YtnmofpefofkoeaaGreatDoorW.PrintWords.Kd.C_nil _ _⟩
    · simp [Value.cells] at hcs
      obtain ⟨rfl, rfl, rfl⟩ := hcs
      have hz2 : len1 ≤ zs.length := by rw [hz]; split <;> omega
      have hlt : (zs.take len1).length = len1 := by rw [List.length_take]; omega
      refine ⟨zs.take len1, hlt, ⟨by omega, by omega⟩, rfl, (by rw [hlt]; exact Nat.le_trans hl hm), fun _ => ⟨_, rfl, fun j p hj => ?_⟩⟩
      have hjl := (List.getElem?_eq_some_iff.1 hj).1
      rw [hlt] at hjl
      refine ⟨[.int .i64 p], rfl, rfl, fun i u hu => ?_⟩
      have hi : i = 0 := by have := (List.getElem?_eq_some_iff.1 hu).1; simp at this; omega
      subst hi
      simp at hu
      subst hu
      have hp : zs.getD j 0 = p := by
        rw [List.getElem?_take] at hj
        rw [if_pos hjl] at hj
        rw [List.getD_eq_getElem?_getD, hj]; rfl
      have := hcell j (by omega)
      rw [hp] at this
      show W.cell? (x.add (j * 1 + 0)) = _
      rw [Nat.mul_one, Nat.add_zero]
      exact this
  subst y1
  clear hA0 hval0 hsz0 hsz
  refine (P.driftnetlaw16_LogfmtBack.walk PU a0 cap0 z0 a1 cap1 z1 W ⟨G_of_laid hL⟩ w0 x0 w1 x1).mono fun e W' ⟨he, bel⟩ => ?_
  subst he
  exact ⟨_, rfl, _, _, _, [], _, [], hW', trodAll_mk1 (shut_bool Tryz.underlying4 _), (trodAll_cons_mk (Below.trod laidOut (by kernel_rfl) (of_decide_eq_true (by kernel_rfl)) k0 bel lt0) (trodAll_cons_mk (Below.trod laidOut (by kernel_rfl) (of_decide_eq_true (by kernel_rfl)) k1 bel lt1) trodAll_mk0)), rfl, bel.frame _, fun h => by cases h⟩
theorem over (PU : P.driftnetlaw16_LogfmtBack.Pure) : Rows.LogfmtBackSaid :=
  OpenClaim.holds_of_wide 7 Tryz.f7 rfl rfl rfl rfl rfl rfl rfl ⟨rfl, rfl, rfl, rfl, rfl⟩ rfl rfl rfl rfl rfl (by kernel_rfl) Tryz.func7 (by kernel_rfl)
    (of_decide_eq_true (by kernel_rfl)) (by unfold Func.isWrapper; first | (rw [if_pos (by decide +kernel)]; kernel_rfl) | (rw [if_neg (by decide +kernel)]; exact ⟨rfl, rfl⟩))
    (fun os started H enc _ => lifted PU os started H enc)
theorem card_of (PU : P.driftnetlaw16_LogfmtBack.Pure) : Rows.LogfmtBackCardSaid :=
  Claim7.holds_tied_plain_at .later [] Rows.logfmtBackCard.laidKinds true Rows.logfmtBackCard.stood.harness Rows.logfmtBackCard.stood.looks (over PU) (fun _ h => by cases h) (by kernel_rfl) (fun _ h => by cases h) logfmtBack_row_tie rfl ⟨rfl, rfl⟩ (by kernel_rfl) rfl
    (fun f fn hf hfn => by
      obtain rfl : f = 7 := Option.some.inj ((show Tryz.prog.funcNamed "driftnet/driftnetlaw16.LogfmtBack" = some 7 by kernel_rfl).symm.trans hf) |>.symm
      obtain rfl : fn = Tryz.f7 := (Option.some.inj (Tryz.func7.symm.trans hfn)).symm
      exact ⟨by kernel_rfl, fun j t ht => by
        rw [Tryz.params7] at ht
        have hm : t ∈ [22, 38] := by simpa using Array.mem_of_getElem? ht
        have hall : ([22, 38].all fun u => !Tryz.prog.wantsStandIn u) = true := by kernel_rfl
        exact (show Tryz.prog.wantsStandIn t = false by simpa using List.all_eq_true.1 hall t hm)⟩)
    (by kernel_rfl)
end Go.Proofs.YtnmofpefofkoeaaGreatDoor.logfmtBack
namespace Go.Proofs.YtnmofpefofkoeaaGreatDoor
open Go
theorem logfmtBack_card : Rows.LogfmtBackCardSaid := logfmtBack.card_of logfmtBack_pure
#print axioms logfmtBack_card
end Go.Proofs.YtnmofpefofkoeaaGreatDoor
