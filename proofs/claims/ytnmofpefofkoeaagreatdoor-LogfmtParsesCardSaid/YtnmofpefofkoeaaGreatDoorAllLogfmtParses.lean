/- LogfmtParses: Parse answers as the chapter says, of all lines: its pure statement, its row and its tied card. No condition. -/
import Derived.Test.YtnmofpefofkoeaaGreatDoorRows
import Derived.Test.YtnmofpefofkoeaaGreatDoorG
import Derived.Test.YtnmofpefofkoeaaGreatDoorEscape
import Derived.ProofKit
import Derived.LaidMore
import Derived.Lay
import Derived.PinnedBridge
import Derived.Lib.LaidIn
import Derived.Lib.LaidU8
import Derived.Lib.LaidCase
import Derived.Deep.DeepLaidRun
import Derived.Test.YtnmofpefofkoeaaGreatDoorSet
import Derived.Test.YtnmofpefofkoeaaGreatDoorFRefM
import Derived.Test.YtnmofpefofkoeaaGreatDoorDecM
import Derived.Lib.RuneBytes
import Derived.Test.YtnmofpefofkoeaaGreatDoorFParsesN
import Derived.Test.YtnmofpefofkoeaaGreatDoorParse
import Derived.Test.YtnmofpefofkoeaaGreatDoorCards
import Derived.Test.YtnmofpefofkoeaaGreatDoorTie
import Derived.WalkKit
import Derived.OpenShut
import Derived.ShutString
import Derived.ChangeOld
import Derived.Below
import Derived.SizedLaws
import Derived.SevenTiedAt
import Derived.Stop.Joined
set_option linter.unusedVariables false
namespace Go.Proofs.YtnmofpefofkoeaaGreatDoor
open Go Go.RowKit Go.Maps Go.WideElems Go.WideMaps Go.Lib

def laidL : List (String × DataW Unit) := [("math/bits.deBruijn32tab", Rows.laid_math_bits_deBruijn32tab), ("math/bits.deBruijn64tab", Rows.laid_math_bits_deBruijn64tab), ("internal/strconv.uint64pow10", Rows.laid_internal_strconv_uint64pow10), ("unicode/utf8.acceptRanges", Rows.laid_unicode_utf8_acceptRanges), ("strconv.ErrRange", Rows.laid_strconv_ErrRange), ("strconv.ErrSyntax", Rows.laid_strconv_ErrSyntax), ("driftnet/quote.escapes", Rows.laid_driftnet_quote_escapes), ("driftnet/quote.coded", Rows.laid_driftnet_quote_coded), ("unicode.CaseRanges", Rows.laid_unicode_CaseRanges), ("unicode/utf8.first", Rows.laid_unicode_utf8_first)]

theorem u8x : U8Extra Tryz.prog Tryz.lays160_ren := ⟨by kernel_rfl, by kernel_rfl, by kernel_rfl, by kernel_rfl, by kernel_rfl, by kernel_rfl, by kernel_rfl⟩
theorem casex : CaseExtra Tryz.prog Tryz.lays204_ren := ⟨by kernel_rfl, by kernel_rfl, by kernel_rfl, by kernel_rfl, by kernel_rfl, by kernel_rfl⟩
theorem accept_eq : (Rows.laid_unicode_utf8_acceptRanges : DataW Unit) = Lib.acceptData := by kernel_rfl

set_option maxRecDepth 100000 in
theorem holds_of_reads {K E g T : Nat} {q : IntKind} {name : String} {D : DataW Unit} {W : World} (h : Lib.VarReads Tryz.prog W name D) (hg : Tryz.prog.globalNamed name = some g) (hy : (Tryz.prog.globals[g]?).map (·.type) = some T)
    (ht : Tryz.prog.underlying T = some (.map K E)) (he : Tryz.prog.underlying E = some (.int q)) (hne : ∃ l, D = .map l) : HoldsMap Tryz.prog K E g D W := by
  obtain ⟨g', t, cs, fuel, p, hg', ht', hv, hd⟩ := h
  obtain rfl := Option.some.inj (hg.symm.trans hg')
  obtain rfl := Option.some.inj (hy.symm.trans ht')
  rcases open_map ht hd with ⟨_, hx⟩ | ⟨bm, es, clock, mm, rfl, hcs, hb, _, F, hx⟩
  · obtain ⟨l, rfl⟩ := hne
    simp at hx
  simp only [Prod.mk.injEq] at hx
  have hcell : W.cell? ⟨g, 0, none⟩ = some (.map (some bm)) := by
    have := World.var?_cell hg hv 0
    rw [Array.eq_one_of_toList hcs] at this
    simpa using this
  refine ⟨bm, es.size, hcell, ?_⟩
  have := World.ownsMap_of_fit (R := plainElem Tryz.prog E) hb F (fun x _ z hz => elemAt_plainElem_int he hz)
  rw [← hx.1] at this
  exact this

set_option maxRecDepth 100000 in
theorem G_of_laid {W : World} (h : laidMetH Tryz.prog laidL W) : G W := by
  rw [MakeChecks.laidMetH_plain _ _ _ (by kernel_rfl)] at h
  have r := fun {n : String} {d : DataW Unit} (hm : (n, d) ∈ laidL) => Lib.laidMet.reads h hm
  refine ⟨?_, ?_, ?_, ?_⟩
  · have h1 := r (n := "unicode/utf8.first") (d := Rows.laid_unicode_utf8_first) (by simp [laidL])
    have h2 := r (n := "unicode/utf8.acceptRanges") (d := Rows.laid_unicode_utf8_acceptRanges) (by simp [laidL])
    rw [show Rows.laid_unicode_utf8_first = Lib.firstData from Pinned.utf8First_eq] at h1
    rw [accept_eq] at h2
    exact utf8Tabs_of_reads (ρ := Tryz.lays160_ren) { Tryz.lays160 with } u8x h1 h2
  · have h1 := r (n := "unicode.CaseRanges") (d := Rows.laid_unicode_CaseRanges) (by simp [laidL])
    rw [show Rows.laid_unicode_CaseRanges = Lib.caseData from Pinned.caseRanges_eq] at h1
    exact caseVar_of_reads (ρ := Tryz.lays204_ren) { Tryz.lays204 with } (by kernel_rfl) casex h1
  · exact holds_of_reads (T := 115) (q := .u8) (r (n := "driftnet/quote.escapes") (d := Rows.laid_driftnet_quote_escapes) (by simp [laidL])) (by kernel_rfl) (by kernel_rfl) Tryz.underlying115 Tryz.underlying5 ⟨_, rfl⟩
  · exact holds_of_reads (T := 116) (q := .i64) (r (n := "driftnet/quote.coded") (d := Rows.laid_driftnet_quote_coded) (by simp [laidL])) (by kernel_rfl) (by kernel_rfl) Tryz.underlying116 Tryz.underlying3 ⟨_, rfl⟩

end Go.Proofs.YtnmofpefofkoeaaGreatDoor
set_option linter.unusedVariables false
namespace Go.Proofs.YtnmofpefofkoeaaGreatDoor
open Go Go.RowKit

def greatN : List String := ["unicode.CaseRanges", "unicode/utf8.first"]
def greatL : List (String × DataW Unit) := [("unicode.CaseRanges", Rows.laid_unicode_CaseRanges), ("unicode/utf8.first", Rows.laid_unicode_utf8_first)]
def smallL : List (String × DataW Unit) := [("math/bits.deBruijn32tab", Rows.laid_math_bits_deBruijn32tab), ("math/bits.deBruijn64tab", Rows.laid_math_bits_deBruijn64tab), ("internal/strconv.uint64pow10", Rows.laid_internal_strconv_uint64pow10), ("unicode/utf8.acceptRanges", Rows.laid_unicode_utf8_acceptRanges), ("strconv.ErrRange", Rows.laid_strconv_ErrRange), ("strconv.ErrSyntax", Rows.laid_strconv_ErrSyntax), ("driftnet/quote.escapes", Rows.laid_driftnet_quote_escapes), ("driftnet/quote.coded", Rows.laid_driftnet_quote_coded)]
def smallB : List Nat := (List.range 20).filter fun k => k != 3 && k != 5
noncomputable def world0 (os : Os) : World := (World.doorLaid Tryz.prog 400 os).layVars Tryz.prog greatL
theorem world0_os (os : Os) : (world0 os).os = os := World.layVars_os _ _ _
theorem great_eq : (laidL.filter fun x => greatN.contains x.1) = greatL := by simp [laidL, greatN, greatL]
theorem small_eq : (laidL.filter fun x => !greatN.contains x.1) = smallL := by simp [laidL, greatN, smallL]

set_option maxRecDepth 100000 in
theorem world0_met (os : Os) (args : Array Value) : laidMetH Tryz.prog laidL ((world0 os).forCall (fun _ _ => 0) ⟨#[], args, []⟩).memory := by
  rw [MakeChecks.laidMetH_plain _ _ _ (by kernel_rfl)]
  refine laidMet_layVars (w0 := World.doorLaid Tryz.prog 400 os) greatN smallB ?_ ?_ ?_ ?_
  · rw [great_eq]; simp [World.memory, World.forCall, Input.heap, world0]
  · rw [great_eq]; kernel_rfl
  · rw [great_eq]; kernel_rfl
  · rw [small_eq]
    exact LaidIn.of_run smallB 8 (by kernel_rfl) (by kernel_rfl) (by kernel_rfl) (by kernel_rfl)
end Go.Proofs.YtnmofpefofkoeaaGreatDoor
set_option linter.unusedVariables false
namespace Go.Proofs.YtnmofpefofkoeaaGreatDoor
open Go Go.RowKit Go.Lib Go.Proofs.YtnmofpefofkoeaaGreatDoorW.PrintWords Go.Proofs.YtnmofpefofkoeaaGreatDoorW.PrintLast Go.Proofs.YtnmofpefofkoeaaGreatDoorW.PrintMore Go.Proofs.YtnmofpefofkoeaaGreatDoor.P

theorem cmp_less : ∀ a b : List UInt8, (compareBytes a b < 0) ↔ Op.bytesLess a b = true
  | [], [] => by simp [compareBytes, Op.bytesLess]
  | [], b :: bs => by simp [compareBytes, Op.bytesLess]
  | a :: xs, [] => by simp [compareBytes, Op.bytesLess]
  | a :: xs, b :: bs => by
    have ih := cmp_less xs bs
    rw [compareBytes, Op.bytesLess]
    by_cases h1 : a < b
    · simp [h1]
    · rw [if_neg h1]
      by_cases h2 : b < a
      · have hne : (a == b) = false := beq_eq_false_iff_ne.2 (by rintro rfl; exact absurd h2 (by simp))
        rw [if_pos h2, hne]; simp [h1]
      · have heq : a = b := UInt8.toNat_inj.1 (by
          have q1 : ¬ a.toNat < b.toNat := fun h => h1 (UInt8.lt_iff_toNat_lt.2 h)
          have q2 : ¬ b.toNat < a.toNat := fun h => h2 (UInt8.lt_iff_toNat_lt.2 h)
          omega)
        rw [if_neg h2, ih, heq]; simp
theorem less_trans : ∀ a b c : List UInt8, Op.bytesLess a b = true → Op.bytesLess b c = true → Op.bytesLess a c = true
  | _, [], _, h, _ => by cases ‹List UInt8› <;> simp [Op.bytesLess] at h
  | _, _ :: _, [], _, h => by simp [Op.bytesLess] at h
  | [], _ :: _, _ :: _, _, _ => by simp [Op.bytesLess]
  | a :: xs, b :: bs, c :: cs, h1, h2 => by
    have ih := less_trans xs bs cs
    simp only [Op.bytesLess, Bool.or_eq_true, Bool.and_eq_true, decide_eq_true_eq, beq_iff_eq] at h1 h2 ⊢
    rcases h1 with h1 | ⟨rfl, h1⟩
    · rcases h2 with h2 | ⟨rfl, h2⟩
      · left; exact UInt8.lt_iff_toNat_lt.2 (by have := UInt8.lt_iff_toNat_lt.1 h1; have := UInt8.lt_iff_toNat_lt.1 h2; omega)
      · left; exact h1
    · rcases h2 with h2 | ⟨rfl, h2⟩
      · left; exact h2
      · right; exact ⟨rfl, ih h1 h2⟩

def lessL (x : Lab) (n : ByteArray) : Bool := Op.bytesLess x.f0.data.toList n.data.toList
/-- The names ahead of a name are the first p. -/
def Cut (L : List Lab) (n : ByteArray) (p : Nat) : Prop := p ≤ L.length ∧ (∀ i x, L[i]? = some x → i < p → lessL x n = true) ∧ (∀ i x, L[i]? = some x → p ≤ i → lessL x n = false)
theorem bs_cut (L : List Lab) (n : ByteArray) (p : Nat) (h : Cut L n p) : ∀ k i j, i ≤ p → p ≤ j → j ≤ L.length → j - i < k → bsP L n k i j = p
  | 0, i, j, _, _, _, hk => by omega
  | k + 1, i, j, h1, h2, h3, hk => by
    rw [bsP]
    by_cases hij : i < j
    · have hm : (i + j) / 2 < L.length := by omega
      have hx : L[(i + j) / 2]? = some L[(i + j) / 2] := List.getElem?_eq_getElem hm
      have hg : L.getD ((i + j) / 2) z35 = L[(i + j) / 2] := by rw [List.getD_eq_getElem?_getD, hx]; rfl
      rw [if_pos hij, hg]
      by_cases hc : compareBytes L[(i + j) / 2].f0.data.toList n.data.toList < 0
      · have hp : (i + j) / 2 < p := by
          rcases Nat.lt_or_ge ((i + j) / 2) p with h' | h'
          · exact h'
          · have := h.2.2 _ _ hx h'
            unfold lessL at this
            rw [(cmp_less _ _).1 hc] at this; cases this
        rw [if_pos hc]
        exact bs_cut L n p h k _ _ (by omega) h2 h3 (by omega)
      · have hp : p ≤ (i + j) / 2 := by
          rcases Nat.lt_or_ge ((i + j) / 2) p with h' | h'
          · have := h.2.1 _ _ hx h'
            unfold lessL at this
            exact absurd ((cmp_less _ _).2 this) hc
          · exact h'
        rw [if_neg hc]
        exact bs_cut L n p h k _ _ h1 hp (by omega) (by omega)
    · rw [if_neg hij]; omega
def Sorted (L : List Lab) : Prop := L.Pairwise fun a b => Op.bytesLess a.f0.data.toList b.f0.data.toList = true
theorem cut_of : ∀ (L : List Lab) (n : ByteArray), Sorted L → ∃ p, Cut L n p
  | [], n, _ => ⟨0, Nat.le_refl _, fun i x h _ => by simp at h, fun i x h _ => by simp at h⟩
  | a :: L, n, h => by
    obtain ⟨ha, hL⟩ := List.pairwise_cons.1 h
    by_cases hl : lessL a n = true
    · obtain ⟨p, hp, h1, h2⟩ := cut_of L n hL
      refine ⟨p + 1, by simp; omega, fun i x hx hi => ?_, fun i x hx hi => ?_⟩
      · cases i with
        | zero => simp at hx; subst hx; exact hl
        | succ i => exact h1 i x (by simpa using hx) (by omega)
      · cases i with
        | zero => omega
        | succ i => exact h2 i x (by simpa using hx) (by omega)
    · refine ⟨0, Nat.zero_le _, fun i x hx hi => absurd hi (by omega), fun i x hx _ => ?_⟩
      cases i with
      | zero => simp at hx; subst hx; simpa using hl
      | succ i =>
        have hm : x ∈ L := List.mem_of_getElem? (by simpa using hx)
        cases hb : lessL x n with
        | false => rfl
        | true => exact absurd (less_trans _ _ _ (ha x hm) hb) hl
theorem place_cut (L : List Lab) (n : ByteArray) (p : Nat) (h : Cut L n p) : placeP L n = p := bs_cut L n p h _ 0 L.length (Nat.zero_le _) h.1 (Nat.le_refl _) (by omega)

theorem ref_inOrder (l : List Lab) : ∀ (k : Nat) (i : Int), P.driftnetref05_InOrder.l0 k l i = P.labels_inOrder.l0 k l l (l.length : Int) i
  | 0, i => rfl
  | k + 1, i => by
    have ih := fun j => ref_inOrder l k j
    rw [P.driftnetref05_InOrder.l0, P.labels_inOrder.l0]
    by_cases h1 : i < (l.length : Int)
    · rw [if_pos h1, if_pos h1]
      by_cases h2 : 0 ≤ i
      · rw [if_pos h2, if_pos h2, if_pos h1]
        simp only [ih]
      · rw [if_neg h2, if_neg h2]
    · rw [if_neg h1, if_neg h1]
theorem ref_inOrder_f (l : List Lab) (k : Nat) : P.driftnetref05_InOrder.f k l = P.labels_inOrder.f k l := ref_inOrder l k 0
theorem inOrder_more (l : List Lab) (b : Bool) (k : Nat) (h : P.labels_inOrder.f k l = some b) : ∀ m, P.labels_inOrder.f (k + m) l = some b
  | 0 => h
  | m + 1 => P.labels_inOrder.mono l (k + m) b (inOrder_more l b k h m)

theorem rd_nat (l : List Lab) (i : Nat) (h : i < l.length) : rd_T35 l (i : Int) = l[i] := by
  unfold rd_T35
  rw [Int.toNat_natCast, List.getD_eq_getElem?_getD, List.getElem?_eq_getElem h]; rfl
theorem inOrder_adj (l : List Lab) (hl : l.length ≤ 1000000) : ∀ (d i k : Nat), l.length - i = d → i ≤ l.length → P.labels_inOrder.l0 k l l (l.length : Int) (i : Int) = some true → ∀ j (hj : j + 1 < l.length), i ≤ j + 1 → Op.bytesLess l[j].f0.data.toList l[j + 1].f0.data.toList = true
  | 0, i, k, hd, hi, hk, j, hj, hij => by omega
  | d + 1, i, k, hd, hi, hk, j, hj, hij => by
    have hw : wrap64 ((i : Int) + 1) = ((i + 1 : Nat) : Int) := by unfold wrap64; omega
    cases k with
    | zero => simp [P.labels_inOrder.l0] at hk
    | succ k =>
      rw [P.labels_inOrder.l0, if_pos (by omega), if_pos (by omega), if_pos (by omega), hw] at hk
      have hil : i < l.length := by omega
      rw [rd_nat l i hil] at hk
      split at hk
      · cases hk
      · split at hk
        · rename_i hpos
          have hw2 : wrap64 ((i : Int) - 1) = ((i - 1 : Nat) : Int) := by unfold wrap64; omega
          rw [hw2, if_pos (by omega), if_pos (by omega), rd_nat l (i - 1) (by omega)] at hk
          split at hk
          · rename_i hless
            by_cases hij2 : i = j + 1
            · subst hij2
              simp only [ByteArray.toList_eq, Nat.add_sub_cancel] at hless
              exact hless
            · exact inOrder_adj l hl d (i + 1) k (by omega) (by omega) hk j hj (by omega)
          · cases hk
        · exact inOrder_adj l hl d (i + 1) k (by omega) (by omega) hk j hj (by omega)
theorem inOrder_sorted (l : List Lab) (hl : l.length ≤ 1000000) (k : Nat) (h : P.labels_inOrder.f k l = some true) : Sorted l := by
  have adj := inOrder_adj l hl l.length 0 k (by omega) (Nat.zero_le _) h
  refine List.pairwise_iff_getElem.2 fun i j hi hj hij => ?_
  have : ∀ m (hm : i + m + 1 < l.length), Op.bytesLess l[i].f0.data.toList l[i + m + 1].f0.data.toList = true := fun m => by
    induction m with
    | zero => intro hm; exact adj i hm (Nat.zero_le _)
    | succ m ih => intro hm; exact less_trans _ _ _ (ih (by omega)) (adj (i + m + 1) hm (Nat.zero_le _))
  obtain ⟨m, rfl⟩ : ∃ m, j = i + m + 1 := ⟨j - i - 1, by omega⟩
  exact this m hj

theorem among_one (n m : ByteArray) (k : Nat) : P.driftnetref05_among.f (k + 2) [n] m = some (n.toList == m.toList) := by
  unfold P.driftnetref05_among.f
  have h0 : rdOf ByteArray.empty [n] 0 = n := rfl
  have hw : wrap64 (0 + 1) = 1 := by unfold wrap64; omega
  rw [P.driftnetref05_among.l0, if_pos (by simp), if_pos (by decide), h0]
  by_cases h : n.toList = m.toList
  · rw [if_pos h, h]; simp
  · rw [if_neg h, hw, P.driftnetref05_among.l0, if_neg (by simp), beq_eq_false_iff_ne.2 h]
theorem keep_flip (n : ByteArray) (x : Lab) : ((n.toList == x.f0.toList) == false) = keepB n x := by
  unfold keepB
  by_cases h : n.toList = x.f0.toList
  · rw [h]; simp
  · rw [beq_eq_false_iff_ne.2 h, beq_eq_false_iff_ne.2 (fun e => h e.symm)]; rfl

theorem choose_loop (l : List Lab) (hl : l.length ≤ 1000000) (n : ByteArray) (K : Nat) (hK : P.labels_inOrder.f K l = some true) : ∀ (d i k : Nat) (out : List Lab), l.length - i = d → i ≤ l.length → out.length ≤ i → 2 * d + K + 4 ≤ k →
    P.driftnetref05_choose.l0 k l [n] false out (i : Int) = some (out ++ (l.drop i).filter (keepB n))
  | 0, i, k, out, hd, hi, ho, hk => by
    obtain ⟨k, rfl⟩ : ∃ m, k = m + 2 := ⟨k - 2, by omega⟩
    rw [show k + 2 = (k + 1) + 1 from rfl, P.driftnetref05_choose.l0, if_neg (by omega), P.driftnetref05_choose.j1, if_neg (by decide), List.drop_eq_nil_of_le (by omega)]
    simp
  | d + 1, i, k, out, hd, hi, ho, hk => by
    obtain ⟨k, rfl⟩ : ∃ m, k = m + 4 := ⟨k - 4, by omega⟩
    have hw : wrap64 ((i : Int) + 1) = ((i + 1 : Nat) : Int) := by unfold wrap64; omega
    have hil : i < l.length := by omega
    have hio : P.driftnetref05_InOrder.f (k + 3) l = some true := by
      rw [ref_inOrder_f, show k + 3 = K + (k + 3 - K) by omega]
      exact inOrder_more l true K hK _
    have ih := fun o ho => choose_loop l hl n K hK d (i + 1) (k + 2) o (by omega) (by omega) ho (by omega)
    rw [show k + 4 = (k + 3) + 1 from rfl, P.driftnetref05_choose.l0, if_pos (by omega), hio, Option.bind_some, show k + 3 = (k + 2) + 1 from rfl, P.driftnetref05_choose.j1, if_pos rfl, if_pos (by omega), if_pos (by omega), rd_nat l i hil, among_one n l[i].f0 k, Option.bind_some, keep_flip, hw, List.drop_eq_getElem_cons hil, List.filter_cons]
    by_cases hp : keepB n l[i] = true
    · rw [if_pos hp, if_pos hp, if_pos (by omega), ih _ (by simp; omega), List.append_assoc]
      rfl
    · rw [if_neg hp, if_neg hp, ih _ (by omega)]
theorem ref_drop (l : List Lab) (hl : l.length ≤ 1000000) (n : ByteArray) (K : Nat) (hK : P.labels_inOrder.f K l = some true) (k : Nat) (hk : 2 * l.length + K + 4 ≤ k) : P.driftnetref05_Drop.f k l n = some (l.filter (keepB n)) := by
  unfold P.driftnetref05_Drop.f P.driftnetref05_choose.f
  have := choose_loop l hl n K hK l.length 0 k [] (by omega) (Nat.zero_le _) (Nat.le_refl _) hk
  rw [show ((0 : Nat) : Int) = 0 from rfl] at this
  rw [this, Option.bind_some]
  simp

theorem put_loop (l : List Lab) (hl : l.length ≤ 1000000) (n v : ByteArray) (p : Nat) (hp : Cut l n p) : ∀ (d i k : Nat), l.length - i = d → i ≤ l.length → d < k →
    P.driftnetref05_put.l0 k l ((min i p : Nat) : Int) (i : Int) n v = some (l.take p ++ ⟨n, v⟩ :: l.drop p)
  | 0, i, k, hd, hi, hk => by
    obtain ⟨k, rfl⟩ : ∃ m, k = m + 1 := ⟨k - 1, by omega⟩
    have hpl := hp.1
    have hm : min i p = p := by omega
    rw [P.driftnetref05_put.l0, if_neg (by omega), hm, if_pos (by omega), if_pos (by omega), Option.bind_some, Int.toNat_natCast, if_pos (by simp; omega), Option.bind_some, Option.bind_some, if_pos (by simp; omega), Option.bind_some, Option.bind_some, if_pos (by simp; omega)]
    simp
  | d + 1, i, k, hd, hi, hk => by
    obtain ⟨k, rfl⟩ : ∃ m, k = m + 1 := ⟨k - 1, by omega⟩
    have hw : wrap64 ((i : Int) + 1) = ((i + 1 : Nat) : Int) := by unfold wrap64; omega
    have hil : i < l.length := by omega
    have hx : l[i]? = some l[i] := List.getElem?_eq_getElem hil
    have ih := put_loop l hl n v p hp d (i + 1) k (by omega) (by omega) (by omega)
    rw [P.driftnetref05_put.l0, if_pos (by omega), if_pos (by omega), rd_nat l i hil, hw]
    simp only [ByteArray.toList_eq]
    by_cases hip : i < p
    · have := hp.2.1 i _ hx hip
      unfold lessL at this
      rw [if_pos this]
      rw [show min (i + 1) p = i + 1 by omega] at ih
      exact ih
    · have := hp.2.2 i _ hx (by omega)
      unfold lessL at this
      rw [this, if_neg (by decide), show min i p = p by omega]
      rw [show min (i + 1) p = p by omega] at ih
      exact ih

/-- The reference's Set tells what the program's does. -/
theorem ref_set (l : List Lab) (hl : l.length ≤ 999999) (n v : ByteArray) (k : Nat) (hk : 3 * l.length + 10 ≤ k) : P.driftnetref05_Set.f k l n v = P.labels_Set.f l n v := by
  unfold P.labels_Set.f
  rw [if_pos hl]
  have htot : ∃ b, P.labels_inOrder.f (l.length + 1) l = some b := by
    have tot : ∀ (d i k : Nat), l.length - i = d → i ≤ l.length → d < k → ∃ b, P.labels_inOrder.l0 k l l (l.length : Int) (i : Int) = some b := by
      intro d
      induction d with
      | zero =>
        intro i k hd hi hk
        obtain ⟨k, rfl⟩ : ∃ m, k = m + 1 := ⟨k - 1, by omega⟩
        rw [P.labels_inOrder.l0, if_neg (by omega)]
        exact ⟨_, rfl⟩
      | succ d ih =>
        intro i k hd hi hk
        obtain ⟨k, rfl⟩ : ∃ m, k = m + 1 := ⟨k - 1, by omega⟩
        have hw : wrap64 ((i : Int) + 1) = ((i + 1 : Nat) : Int) := by unfold wrap64; omega
        have ih := ih (i + 1) k (by omega) (by omega) (by omega)
        rw [P.labels_inOrder.l0, if_pos (by omega), if_pos (by omega), if_pos (by omega), hw]
        split
        · exact ⟨_, rfl⟩
        · split
          · have hw2 : wrap64 ((i : Int) - 1) = (i : Int) - 1 := by unfold wrap64; omega
            rw [hw2, if_pos (by omega), if_pos (by omega)]
            split
            · exact ih
            · exact ⟨_, rfl⟩
          · exact ih
    exact tot l.length 0 (l.length + 1) (by omega) (by omega) (by omega)
  obtain ⟨b, hb⟩ := htot
  have hb2 : P.driftnetref05_InOrder.f k l = some b := by
    rw [ref_inOrder_f, show k = (l.length + 1) + (k - (l.length + 1)) by omega]
    exact inOrder_more l b _ hb _
  unfold P.driftnetref05_Set.f
  rw [hb, hb2, Option.bind_some, Option.bind_some]
  cases b with
  | false => rfl
  | true =>
    have hs := inOrder_sorted l (by omega) _ hb
    have hfs : Sorted (l.filter (keepB n)) := List.Pairwise.filter _ hs
    have hfl := List.length_filter_le (keepB n) l
    obtain ⟨p, hp⟩ := cut_of _ n hfs
    rw [if_pos rfl, if_pos rfl, ref_drop l (by omega) n (l.length + 1) hb k (by omega), Option.bind_some]
    unfold setP
    rw [place_cut _ n p hp]
    split
    · rfl
    · unfold P.driftnetref05_put.f
      have := put_loop (l.filter (keepB n)) (by omega) n v p hp (l.filter (keepB n)).length 0 k (by omega) (Nat.zero_le _) (by omega)
      rw [Nat.zero_min] at this
      rw [show ((0 : Nat) : Int) = 0 from rfl] at this
      rw [this, Option.bind_some]
end Go.Proofs.YtnmofpefofkoeaaGreatDoor
set_option linter.unusedVariables false
namespace Go.Proofs.YtnmofpefofkoeaaGreatDoor
open Go Go.RowKit Go.Proofs.YtnmofpefofkoeaaGreatDoorW.PrintWords Go.Proofs.YtnmofpefofkoeaaGreatDoorW.PrintLast Go.Proofs.YtnmofpefofkoeaaGreatDoorW.PrintMore Go.Lib

theorem i32_and63 (x : Int) (h0 : 0 ≤ x) (h1 : x < 2147483648) : Go.bits .and .i32 x 63 = x % 64 := bits_mask .i32 31 (by decide) wraps_i32 6 (by decide) x h0 h1
theorem six0 (v : Nat) (h : v ≤ 1114111) : P.driftnetref04_six.f v 0 = some ((128 + v % 64 : Nat) : Int) := by
  unfold P.driftnetref04_six.f
  rw [if_pos (by decide), show shr .i32 (v : Int) 0 = (v : Int) by unfold shr; simp, i32_and63 _ (by omega) (by omega)]
  congr 1
  unfold wrap32; omega
theorem six6 (v : Nat) (h : v ≤ 1114111) : P.driftnetref04_six.f v 6 = some ((128 + v / 64 % 64 : Nat) : Int) := by
  unfold P.driftnetref04_six.f
  rw [if_pos (by decide), show shr .i32 (v : Int) 6 = (v : Int) / 64 by rfl, i32_and63 _ (by omega) (by omega)]
  congr 1
  unfold wrap32; omega
theorem six12 (v : Nat) (h : v ≤ 1114111) : P.driftnetref04_six.f v 12 = some ((128 + v / 4096 % 64 : Nat) : Int) := by
  unfold P.driftnetref04_six.f
  rw [if_pos (by decide), show shr .i32 (v : Int) 12 = (v : Int) / 4096 by rfl, i32_and63 _ (by omega) (by omega)]
  congr 1
  unfold wrap32; omega

theorem strOf_eq (xs : List Int) (l : List UInt8) (h : xs.map (fun n => UInt8.ofNat n.toNat) = l) : strOfNums xs = ⟨l.toArray⟩ := ba_ext (by rw [strOfNums_data, h])
theorem ofNat_toNat (x : Int) (n : Nat) (h : x = n) : UInt8.ofNat x.toNat = n.toUInt8 := by subst h; rfl

theorem ref_enc_j (v : Nat) (hv : validR v) (k : Nat) : P.driftnetref04_Encode.j0 (k + 1) (v : Int) = some ⟨(encodeRune (v : Int)).toArray⟩ := by
  have hm : v ≤ 1114111 := by unfold validR at hv; omega
  rw [P.driftnetref04_Encode.j0, six0 v hm, Option.bind_some]
  by_cases c1 : v < 128
  · rw [if_pos (by omega), enc1 v c1]
    congr 1
    refine strOf_eq _ _ ?_
    simp only [List.map_cons, List.map_nil]
    rw [ofNat_toNat _ v (by omega)]
  · by_cases c2 : v < 2048
    · rw [if_neg (by omega), if_pos (by omega), enc2 v (by omega) c2]
      congr 1
      refine strOf_eq _ _ ?_
      simp only [List.map_cons, List.map_nil]
      rw [ofNat_toNat _ (192 + v / 64) (by unfold wrap32; omega), ofNat_toNat _ (128 + v % 64) rfl]
    · by_cases c3 : v < 65536
      · rw [if_neg (by omega), if_neg (by omega), if_pos (by omega), six6 v hm, Option.bind_some, enc3 v (by omega) c3 (by unfold validR at hv; omega)]
        congr 1
        refine strOf_eq _ _ ?_
        simp only [List.map_cons, List.map_nil]
        rw [ofNat_toNat _ (224 + v / 4096) (by unfold wrap32; omega), ofNat_toNat _ (128 + v / 64 % 64) rfl, ofNat_toNat _ (128 + v % 64) rfl]
      · rw [if_neg (by omega), if_neg (by omega), if_neg (by omega), six12 v hm, Option.bind_some, six6 v hm, Option.bind_some, enc4 v (by omega) hm]
        congr 1
        refine strOf_eq _ _ ?_
        simp only [List.map_cons, List.map_nil]
        rw [ofNat_toNat _ (240 + v / 262144) (by unfold wrap32; omega), ofNat_toNat _ (128 + v / 4096 % 64) rfl, ofNat_toNat _ (128 + v / 64 % 64) rfl, ofNat_toNat _ (128 + v % 64) rfl]

theorem isRune_f (r : Int) : P.driftnetref04_isRune.f r = some (decide (0 ≤ r ∧ r ≤ 1114111 ∧ (r < 55296 ∨ 57343 < r))) := by
  unfold P.driftnetref04_isRune.f
  repeat' split
  all_goals congr 1
  all_goals first
    | (symm; exact decide_eq_true (by omega))
    | (symm; exact decide_eq_false (by omega))
    | (rw [Bool.eq_iff_iff, decide_eq_true_iff, decide_eq_true_iff]; omega)
theorem ref_encode (r : Int) (k : Nat) : P.driftnetref04_Encode.f (k + 1) r = some ⟨(encodeRune r).toArray⟩ := by
  unfold P.driftnetref04_Encode.f
  rw [isRune_f, Option.bind_some, enc_vr r]
  unfold vr
  by_cases h : 0 ≤ r ∧ r ≤ 1114111 ∧ (r < 55296 ∨ 57343 < r)
  · rw [decide_eq_true h, if_pos rfl, if_pos h]
    have := ref_enc_j r.toNat (by unfold validR; omega) k
    rwa [show ((r.toNat : Nat) : Int) = r by omega] at this ⊢
  · rw [decide_eq_false h, if_neg (by decide), if_neg h]
    exact ref_enc_j 65533 (by unfold validR; omega) k

theorem bt_nat (s : ByteArray) (i : Nat) : bt s (i : Int) = (s.data.toList.getD i 0).toNat := by
  unfold bt
  rw [Int.toNat_natCast]
  split
  · rename_i h
    have hl : i < s.data.toList.length := by rw [ba_len]; exact h
    rw [List.getD, List.getElem?_eq_getElem hl]
    rfl
  · rename_i h
    have hl : ¬ i < s.data.toList.length := by rw [ba_len]; exact h
    rw [List.getD, List.getElem?_eq_none (by omega)]
    rfl
end Go.Proofs.YtnmofpefofkoeaaGreatDoor
namespace Go.Proofs.YtnmofpefofkoeaaGreatDoor
open Go Go.RowKit Go.Proofs.YtnmofpefofkoeaaGreatDoorW.PrintWords Go.Proofs.YtnmofpefofkoeaaGreatDoorW.PrintMore Go.Lib
namespace Q
theorem toList_ne {s : ByteArray} (h : s.size ≠ 0) : ¬ s.toList = ([] : List UInt8) := fun e => by
  rw [ByteArray.toList_eq] at e
  have := ba_len s
  rw [e] at this
  exact h this.symm
theorem toList_nil {s : ByteArray} (h : s.size = 0) : s.toList = ([] : List UInt8) := by
  rw [ByteArray.toList_eq]
  exact List.eq_nil_of_length_eq_zero (by rw [ba_len, h])
theorem size_append (a b : ByteArray) : (a ++ b).size = a.size + b.size := by simp
theorem data_append (a b : ByteArray) : (a ++ b).data.toList = a.data.toList ++ b.data.toList := by rw [ByteArray.data_append, Array.toList_append]
theorem bt_head (s : ByteArray) (c : UInt8) (t : List UInt8) (h : s.data.toList = c :: t) : bt s 0 = c.toNat := by
  have : s = ⟨(c :: t).toArray⟩ := ba_ext h
  rw [this]; exact bt_zero c t
end Q
end Go.Proofs.YtnmofpefofkoeaaGreatDoor
set_option linter.unusedVariables false
namespace Go.Proofs.YtnmofpefofkoeaaGreatDoor
open Go Go.RowKit Go.Proofs.YtnmofpefofkoeaaGreatDoorW.PrintWords Go.Proofs.YtnmofpefofkoeaaGreatDoorW.PrintLast Go.Proofs.YtnmofpefofkoeaaGreatDoorW.PrintMore Go.Lib

set_option maxRecDepth 100000 in
theorem digit17 : ∀ c : Fin 256, P.driftnetref04_digit.f 17 (c.val : Int) = some (if hexDig c.val < 16 then (hexDig c.val : Int) else -1) := by decide +kernel
theorem digit_f (c : UInt8) (d : Nat) : P.driftnetref04_digit.f (17 + d) (c.toNat : Int) = some (if hexDig c.toNat < 16 then (hexDig c.toNat : Int) else -1) := by
  induction d with
  | zero => exact digit17 ⟨c.toNat, c.toNat_lt⟩
  | succ d ih => exact P.driftnetref04_digit.mono (c.toNat : Int) (17 + d) _ ih

theorem allHex_take (l : List UInt8) (i : Nat) (h : i < l.length) : allHex (l.take (i + 1)) = (allHex (l.take i) && decide (hexDig (l[i]'h).toNat < 16)) := by
  unfold allHex
  rw [List.take_succ_eq_append_getElem h, List.all_append]
  simp
theorem hexVal_take (l : List UInt8) (i : Nat) (h : i < l.length) : hexVal (l.take (i + 1)) = hexVal (l.take i) * 16 + hexDig (l[i]'h).toNat := by
  rw [List.take_succ_eq_append_getElem h, hexVal_snoc]
theorem allHex_mono (l : List UInt8) (i n : Nat) (h : i ≤ n) (hn : allHex (l.take n) = true) : allHex (l.take i) = true := by
  unfold allHex at *
  rw [List.all_eq_true] at *
  intro x hx
  exact hn x (List.mem_of_mem_take (by rw [List.take_take, Nat.min_eq_left h]; exact hx))

theorem hex_num (H D H2 : Nat) (h : H < 268435456) (hD : D < 16) (e : H2 = H * 16 + D) : wrap64 (wrap64 ((H : Int) * 16) + (D : Int)) = (H2 : Int) := by
  subst e; unfold wrap64; omega
theorem hex_bound (l : List UInt8) (i : Nat) (hi : i < 8) (ha : allHex (l.take i) = true) : hexVal (l.take i) < 268435456 := by
  have hv := hexVal_lt (l.take i) (fun c hc => of_decide_eq_true (List.all_eq_true.1 ha c hc))
  have hl : (l.take i).length ≤ 7 := by rw [List.length_take]; omega
  exact Nat.lt_of_lt_of_le hv (Nat.pow_le_pow_right (n := 16) (j := 7) (by decide) hl)
theorem hex_loop (s : ByteArray) (n : Nat) (hn : n ≤ 8) : ∀ (d i k : Nat), n - i = d → i ≤ n → i ≤ s.size → 18 + d ≤ k → allHex (s.data.toList.take i) = true →
    P.driftnetref04_hex.l0 k s (n : Int) (hexVal (s.data.toList.take i) : Int) (i : Int) =
      if n ≤ s.size ∧ allHex (s.data.toList.take n) = true then some ((hexVal (s.data.toList.take n) : Int), true) else some (0, false) := by
  intro d
  induction d with
  | zero =>
    intro i k hd hi hs hk ha
    obtain ⟨k, rfl⟩ : ∃ k', k = k' + 1 := ⟨k - 1, by omega⟩
    obtain rfl : i = n := by omega
    rw [P.driftnetref04_hex.l0, if_neg (by omega), if_pos ⟨hs, ha⟩]
  | succ d ih =>
    intro i k hd hi hs hk ha
    obtain ⟨k, rfl⟩ : ∃ k', k = (17 + k') + 1 := ⟨k - 18, by omega⟩
    rw [P.driftnetref04_hex.l0, if_pos (by omega)]
    by_cases h : i < s.size
    · have hl : i < s.data.toList.length := by rw [ba_len]; exact h
      have hb : bt s (i : Int) = ((s.data.toList[i]'hl).toNat : Int) := by
        rw [bt_nat, List.getD, List.getElem?_eq_getElem hl]; rfl
      have hv7 := hex_bound s.data.toList i (by omega) ha
      have hat := allHex_take s.data.toList i hl
      have hvt := hexVal_take s.data.toList i hl
      rw [if_neg (by omega), if_pos (by omega), if_pos (by omega), hb, digit_f, Option.bind_some]
      by_cases hx : hexDig (s.data.toList[i]'hl).toNat < 16
      · rw [if_pos hx, if_neg (by omega), Option.bind_some]
        have hw : wrap64 (wrap64 ((hexVal (s.data.toList.take i) : Int) * 16) + (hexDig (s.data.toList[i]'hl).toNat : Int)) = (hexVal (s.data.toList.take (i + 1)) : Int) := by
          exact hex_num _ _ _ hv7 hx hvt
        rw [hw, show wrap64 ((i : Int) + 1) = ((i + 1 : Nat) : Int) by unfold wrap64; omega]
        exact ih (i + 1) _ (by omega) (by omega) (by omega) (by omega) (by rw [hat, ha, decide_eq_true hx]; rfl)
      · rw [if_neg hx, if_pos (by decide), if_neg]
        rintro ⟨_, h2⟩
        have := allHex_mono _ (i + 1) n (by omega) h2
        rw [hat, decide_eq_false hx, Bool.and_false] at this
        cases this
    · rw [if_pos (by omega), if_neg (by omega)]
theorem hex_f (s : ByteArray) (n : Nat) (hn : n ≤ 8) (k : Nat) (hk : 26 ≤ k) : P.driftnetref04_hex.f k s (n : Int) =
    if n ≤ s.size ∧ allHex (s.data.toList.take n) = true then some ((hexVal (s.data.toList.take n) : Int), true) else some (0, false) :=
  hex_loop s n hn n 0 k (by omega) (by omega) (by omega) (by omega) rfl
end Go.Proofs.YtnmofpefofkoeaaGreatDoor
set_option linter.unusedVariables false
namespace Go.Proofs.YtnmofpefofkoeaaGreatDoor
open Go Go.RowKit Go.Proofs.YtnmofpefofkoeaaGreatDoorW.PrintWords Go.Proofs.YtnmofpefofkoeaaGreatDoorW.PrintLast Go.Proofs.YtnmofpefofkoeaaGreatDoorW.PrintMore Go.Lib

def fromL : List Nat := [97, 98, 102, 110, 114, 116, 118, 92, 39, 34]
def toL : List Nat := [7, 8, 12, 10, 13, 9, 11, 92, 39, 34]
theorem from_bt : ∀ i : Fin 10, bt (⟨#[97, 98, 102, 110, 114, 116, 118, 92, 39, 34]⟩ : ByteArray) (i.val : Int) = (fromL.getD i.val 0 : Nat) := by decide +kernel
theorem to_cut : ∀ i : Fin 10, (⟨#[7, 8, 12, 10, 13, 9, 11, 92, 39, 34]⟩ : ByteArray).extract i.val (i.val + 1) = ⟨#[UInt8.ofNat (toL.getD i.val 0)]⟩ := by decide +kernel

theorem piece_step (s : ByteArray) (h : s.size ≠ 0) (c : Nat) (hc : bt s 0 = (c : Int)) (i : Nat) (hi : i < 10) (k : Nat) :
    P.driftnetref04_piece.l0 (k + 1) s (⟨#[97, 98, 102, 110, 114, 116, 118, 92, 39, 34]⟩ : ByteArray) (⟨#[7, 8, 12, 10, 13, 9, 11, 92, 39, 34]⟩ : ByteArray) (i : Int) =
      if fromL.getD i 0 = c then some (⟨#[UInt8.ofNat (toL.getD i 0)]⟩, 1)
      else P.driftnetref04_piece.l0 k s (⟨#[97, 98, 102, 110, 114, 116, 118, 92, 39, 34]⟩ : ByteArray) (⟨#[7, 8, 12, 10, 13, 9, 11, 92, 39, 34]⟩ : ByteArray) ((i + 1 : Nat) : Int) := by
  have e1 : ((⟨#[97, 98, 102, 110, 114, 116, 118, 92, 39, 34]⟩ : ByteArray).size : Int) = 10 := rfl
  have e2 : ((⟨#[7, 8, 12, 10, 13, 9, 11, 92, 39, 34]⟩ : ByteArray).size : Int) = 10 := rfl
  have hw : wrap64 ((i : Int) + 1) = ((i + 1 : Nat) : Int) := by unfold wrap64; omega
  have hb := from_bt ⟨i, hi⟩
  have ht := to_cut ⟨i, hi⟩
  simp only at hb ht
  rw [P.driftnetref04_piece.l0, e1, e2, if_pos (by omega), if_pos (by omega), if_pos (by omega), hb, hc, hw]
  by_cases hf : fromL.getD i 0 = c
  · rw [if_pos (by omega), if_pos hf, if_pos (by omega), if_pos (by omega), Int.toNat_natCast, Int.toNat_natCast, ht]
  · rw [if_neg (by omega), if_neg hf]
theorem piece_last (s : ByteArray) (h : s.size ≠ 0) (c : Nat) (hc : bt s 0 = (c : Int)) (k : Nat) :
    P.driftnetref04_piece.l0 (k + 1) s (⟨#[97, 98, 102, 110, 114, 116, 118, 92, 39, 34]⟩ : ByteArray) (⟨#[7, 8, 12, 10, 13, 9, 11, 92, 39, 34]⟩ : ByteArray) ((10 : Nat) : Int) =
      P.driftnetref04_piece.j1 k s (((codOf c).getD 0 : Nat) : Int) := by
  have e1 : ((⟨#[97, 98, 102, 110, 114, 116, 118, 92, 39, 34]⟩ : ByteArray).size : Int) = 10 := rfl
  rw [P.driftnetref04_piece.l0, e1, if_neg (by omega), if_pos (by omega), hc]
  by_cases c1 : c = 120
  · subst c1; rw [if_pos (by omega)]; rfl
  · rw [if_neg (by omega)]
    by_cases c2 : c = 117
    · subst c2; rw [if_pos (by omega)]; rfl
    · rw [if_neg (by omega)]
      by_cases c3 : c = 85
      · subst c3; rw [if_pos (by omega)]; rfl
      · rw [if_neg (by omega)]
        have : codOf c = none := by unfold codOf; split <;> first | (exfalso; omega) | rfl
        rw [this]; rfl
theorem piece_f (s : ByteArray) (h : s.size ≠ 0) (c : Nat) (hc : bt s 0 = (c : Int)) (hc256 : c < 256) (k : Nat) : P.driftnetref04_piece.f (k + 11) s =
    match escOf c with
    | some b => some (⟨#[UInt8.ofNat b]⟩, 1)
    | none => P.driftnetref04_piece.j1 k s (((codOf c).getD 0 : Nat) : Int) := by
  have hne : ¬ s.toList = ([] : List UInt8) := fun e => by
    rw [ByteArray.toList_eq] at e
    have := ba_len s
    rw [e] at this
    exact h this.symm
  unfold P.driftnetref04_piece.f
  rw [if_neg hne, show (0 : Int) = ((0 : Nat) : Int) from rfl]
  rw [piece_step s h c hc 0 (by decide) (k + 10), piece_step s h c hc 1 (by decide) (k + 9), piece_step s h c hc 2 (by decide) (k + 8), piece_step s h c hc 3 (by decide) (k + 7), piece_step s h c hc 4 (by decide) (k + 6),
    piece_step s h c hc 5 (by decide) (k + 5), piece_step s h c hc 6 (by decide) (k + 4), piece_step s h c hc 7 (by decide) (k + 3), piece_step s h c hc 8 (by decide) (k + 2), piece_step s h c hc 9 (by decide) (k + 1), piece_last s h c hc k]
  simp only [fromL, toL, List.getD_cons_zero, List.getD_cons_succ]
  by_cases a0 : 97 = c
  · subst a0; rfl
  · rw [if_neg a0]
    by_cases a1 : 98 = c
    · subst a1; rfl
    · rw [if_neg a1]
      by_cases a2 : 102 = c
      · subst a2; rfl
      · rw [if_neg a2]
        by_cases a3 : 110 = c
        · subst a3; rfl
        · rw [if_neg a3]
          by_cases a4 : 114 = c
          · subst a4; rfl
          · rw [if_neg a4]
            by_cases a5 : 116 = c
            · subst a5; rfl
            · rw [if_neg a5]
              by_cases a6 : 118 = c
              · subst a6; rfl
              · rw [if_neg a6]
                by_cases a7 : 92 = c
                · subst a7; rfl
                · rw [if_neg a7]
                  by_cases a8 : 39 = c
                  · subst a8; rfl
                  · rw [if_neg a8]
                    by_cases a9 : 34 = c
                    · subst a9; rfl
                    · rw [if_neg a9]
                      have hn : escOf c = none := by unfold escOf; split <;> first | (exfalso; omega) | rfl
                      rw [hn]
end Go.Proofs.YtnmofpefofkoeaaGreatDoor
set_option linter.unusedVariables false
namespace Go.Proofs.YtnmofpefofkoeaaGreatDoor
open Go Go.RowKit Go.Proofs.YtnmofpefofkoeaaGreatDoorW.PrintWords Go.Proofs.YtnmofpefofkoeaaGreatDoorW.PrintLast Go.Proofs.YtnmofpefofkoeaaGreatDoorW.PrintMore Go.Lib

theorem ref_piece (c : UInt8) (t : List UInt8) (k : Nat) : P.driftnetref04_piece.f (k + 50) ⟨(c :: t).toArray⟩ =
    match escL (c :: t) with
    | none => some (⟨#[]⟩, 0)
    | some x => some (⟨x.1.toArray⟩, (((c :: t).length - x.2.length : Nat) : Int)) := by
  have hsz : (⟨(c :: t).toArray⟩ : ByteArray).size = t.length + 1 := rfl
  have hc256 := c.toNat_lt
  have hx : (⟨(c :: t).toArray⟩ : ByteArray).extract 1 (⟨(c :: t).toArray⟩ : ByteArray).size = ⟨t.toArray⟩ := by
    refine ba_ext ?_
    rw [ba_extract, hsz]; simp
  have hd : (⟨t.toArray⟩ : ByteArray).data.toList = t := rfl
  have hts : (⟨t.toArray⟩ : ByteArray).size = t.length := rfl
  rw [show k + 50 = (k + 39) + 11 by omega, piece_f _ (by omega) c.toNat (bt_zero c t) hc256, escL]
  cases he : escOf c.toNat with
  | some b =>
    simp only [List.length_cons]
    rw [show t.length + 1 - t.length = 1 by omega]
    rfl
  | none =>
    simp only
    rw [show k + 39 = (k + 38) + 1 by omega, P.driftnetref04_piece.j1, if_pos (by omega), hx]
    cases hcd : codOf c.toNat with
    | none =>
      simp only [Option.getD_none]
      rw [hex_f _ 0 (by omega) _ (by omega), if_pos ⟨by omega, rfl⟩, Option.bind_some, if_pos (by omega), show k + 38 = (k + 37) + 1 by omega, P.driftnetref04_piece.j2, if_pos rfl]
    | some n =>
      have hn := codOf_some hcd
      simp only [Option.getD_some]
      rw [hex_f _ n (by omega) _ (by omega), hd, hts]
      by_cases hl : t.length < n
      · rw [if_neg (by rintro ⟨h, _⟩; omega), if_pos hl, Option.bind_some, if_neg (by omega), show k + 38 = (k + 37) + 1 by omega, P.driftnetref04_piece.j2, if_pos (show (!false) = true from rfl)]
      · rw [if_neg hl]
        by_cases hh : allHex (t.take n) = true
        · have hb : hexVal (t.take n) < 16 ^ 8 := by
            have hv := hexVal_lt (t.take n) (fun c hc => of_decide_eq_true (List.all_eq_true.1 hh c hc))
            exact Nat.lt_of_lt_of_le hv (Nat.pow_le_pow_right (n := 16) (j := 8) (by decide) (by rw [List.length_take]; omega))
          have hb2 : n = 2 → hexVal (t.take n) < 256 := fun e => by
            have hv := hexVal_lt (t.take n) (fun c hc => of_decide_eq_true (List.all_eq_true.1 hh c hc))
            exact Nat.lt_of_lt_of_le hv (Nat.pow_le_pow_right (n := 16) (j := 2) (by decide) (by rw [List.length_take]; omega))
          have hb3 : hexVal (t.take n) < 4294967296 := hb
          clear hb
          rw [if_pos ⟨by omega, hh⟩, if_pos hh, Option.bind_some, if_neg (by omega), show k + 38 = (k + 37) + 1 by omega, P.driftnetref04_piece.j2, if_neg (show ¬ (!true) = true by decide)]
          have hcnt : (c :: t).length - (t.drop n).length = 1 + n := by rw [List.length_cons, List.length_drop]; omega
          generalize hexVal (t.take n) = x at *
          by_cases h2 : n = 2
          · have h256 := hb2 h2
            rw [if_pos (by omega), if_pos h2]
            simp only
            rw [hcnt, h2, strOf_eq _ [x.toUInt8] (by simp only [List.map_cons, List.map_nil]; rw [ofNat_toNat _ x (by omega)])]
            rfl
          · rw [if_neg (by omega), if_neg h2]
            by_cases hbig : 1114111 < x
            · have : validN x = false := by unfold validN; exact decide_eq_false (by omega)
              rw [if_pos (by omega), this]; rfl
            · have hw : wrap32 (x : Int) = (x : Int) := by unfold wrap32; omega
              have hv : validN x = decide ((0 : Int) ≤ x ∧ (x : Int) ≤ 1114111 ∧ ((x : Int) < 55296 ∨ 57343 < (x : Int))) := by
                unfold validN; rw [Bool.eq_iff_iff, decide_eq_true_iff, decide_eq_true_iff]; omega
              rw [if_neg (by omega), hw, isRune_f, Option.bind_some, ← hv]
              cases hvx : validN x with
              | false => rw [if_neg (by decide), if_neg (by decide)]
              | true =>
                rw [if_pos rfl, if_pos rfl, show k + 37 = (k + 36) + 1 by omega, ref_encode, Option.bind_some]
                simp only
                rw [hcnt, show wrap64 (1 + (n : Int)) = ((1 + n : Nat) : Int) by unfold wrap64; omega]
        · rw [if_neg (by rintro ⟨_, h⟩; exact hh h), if_neg hh, Option.bind_some, if_neg (by omega), show k + 38 = (k + 37) + 1 by omega, P.driftnetref04_piece.j2, if_pos (show (!false) = true from rfl)]
end Go.Proofs.YtnmofpefofkoeaaGreatDoor
set_option linter.unusedVariables false
namespace Go.Proofs.YtnmofpefofkoeaaGreatDoor
open Go Go.RowKit Go.Proofs.YtnmofpefofkoeaaGreatDoorW.PrintWords Go.Proofs.YtnmofpefofkoeaaGreatDoorW.PrintLast Go.Proofs.YtnmofpefofkoeaaGreatDoorW.PrintMore Go.Lib

theorem escL_drop {t u r : List UInt8} (h : escL t = some (u, r)) : r = t.drop (t.length - r.length) ∧ u.length ≤ 4 := by
  unfold escL at h
  split at h
  · cases h
  · rename_i c t'
    have one : ∀ n, n ≤ t'.length → t'.drop n = (c :: t').drop ((c :: t').length - (t'.drop n).length) := fun n hn => by
      rw [List.length_cons, List.length_drop, show t'.length + 1 - (t'.length - n) = n + 1 by omega]; rfl
    split at h
    · cases h
      exact ⟨one 0 (by omega), by simp⟩
    · split at h
      · cases h
      · rename_i n _
        split at h
        · cases h
        · rename_i hn
          split at h
          · split at h
            · cases h
              exact ⟨one n (by omega), by simp⟩
            · split at h
              · cases h
                refine ⟨one n (by omega), ?_⟩
                have hb := runeCells_le ((hexVal (t'.take n) : Nat) : Int)
                rw [runeCells_length] at hb
                exact hb.2
              · cases h
          · cases h

theorem list_ne {c : UInt8} {t : List UInt8} : ¬ (⟨(c :: t).toArray⟩ : ByteArray).toList = ([] : List UInt8) := by
  rw [ByteArray.toList_eq]; exact List.cons_ne_nil _ _

theorem piece_nil (k : Nat) : P.driftnetref04_piece.f k ⟨([] : List UInt8).toArray⟩ = some (⟨#[]⟩, 0) := by
  unfold P.driftnetref04_piece.f
  rw [if_pos (by rw [ByteArray.toList_eq])]

theorem cnt_ne (L r m : Nat) (h : r < L) (hd : L - r = m) : ¬ ((m : Int) = 0) := by omega
theorem cnt_wrap (L r m : Nat) (hd : L - r = m) (hL : L ≤ 100000) : wrap64 (1 + (m : Int)) = ((1 + m : Nat) : Int) := by unfold wrap64; omega
theorem cnt_nonneg (m : Nat) : (0 : Int) ≤ ((1 + m : Nat) : Int) := by omega
theorem cnt_le (L r m z : Nat) (hd : L - r = m) (hz : z = L + 1) : ((1 + m : Nat) : Int) ≤ (z : Int) := by omega
theorem cnt_out (o u L : Nat) (h : o + 4 * (L + 1) ≤ 1000000) (hu : u ≤ 4) : o + u ≤ 9223372036854775807 := by omega
theorem cnt_next (o u L r : Nat) (h : o + 4 * (L + 1) ≤ 1000000) (hu : u ≤ 4) (hr : r < L) : o + u + 4 * r ≤ 1000000 := by omega
set_option maxHeartbeats 1000000 in
theorem ref_unq_loop (dq : Bool) : ∀ (n : Nat) (l : List UInt8) (out : ByteArray) (k : Nat), l.length ≤ n → n ≤ 100000 → out.size + 4 * l.length ≤ 1000000 → 3 * n + 60 ≤ k →
    P.driftnetref04_Unquote.l0 k ⟨l.toArray⟩ (markOf dq : Int) out = some (P.unq2 (unq dq l out.data.toList))
  | n, [], out, k, hl, hn, ho, hk => by
    obtain ⟨k', rfl⟩ : ∃ k', k = k' + 1 := ⟨k - 1, by omega⟩
    rw [P.driftnetref04_Unquote.l0, if_pos (by rw [ByteArray.toList_eq]), unq_nil]
    rfl
  | 0, c :: t, out, k, hl, _, _, _ => by simp at hl
  | n + 1, c :: t, out, k, hl, hn, ho, hk => by
    obtain ⟨k', rfl⟩ : ∃ k', k = k' + 3 := ⟨k - 3, by omega⟩
    rw [List.length_cons] at hl ho
    have hsz : (⟨(c :: t).toArray⟩ : ByteArray).size = t.length + 1 := rfl
    have hx : (⟨(c :: t).toArray⟩ : ByteArray).extract 1 (⟨(c :: t).toArray⟩ : ByteArray).size = ⟨t.toArray⟩ := by
      refine ba_ext ?_
      rw [ba_extract, hsz]; simp
    have h0 : (⟨(c :: t).toArray⟩ : ByteArray).extract 0 1 = ⟨[c].toArray⟩ := by
      refine ba_ext ?_
      rw [ba_extract]; simp
    have hb := bt_zero c t
    have hc := c.toNat_lt
    have hm : ((c.toNat : Int) = (markOf dq : Int)) ↔ c.toNat = markOf dq := by omega
    have hmk : markOf dq = 34 ∨ markOf dq = 96 := by unfold markOf; split <;> omega
    have hdq : markOf dq = 34 ↔ dq = true := by unfold markOf; cases dq <;> simp
    have ht : k' + 3 = k' + 2 + 1 := rfl
    have plain : P.driftnetref04_Unquote.j3 (k' + 1) ⟨(c :: t).toArray⟩ (markOf dq : Int) out true = some (P.unq2 (unq dq t (out.data.toList ++ [c]))) := by
      rw [P.driftnetref04_Unquote.j3, if_pos rfl, if_pos (by omega), if_pos (by omega), h0, if_pos (by show out.size + 1 ≤ _; omega), hx, ref_unq_loop dq n t _ k' (by omega) (by omega) (by rw [Q.size_append]; show out.size + 1 + _ ≤ _; omega) (by omega), Q.data_append]
    have esc : dq = true → P.driftnetref04_Unquote.j3 (k' + 1) ⟨(c :: t).toArray⟩ (markOf dq : Int) out false = some (P.unq2 (match escL t with | none => none | some x => unq dq x.2 (out.data.toList ++ x.1))) := by
      intro _
      rw [P.driftnetref04_Unquote.j3, if_neg (by decide), if_pos (by omega), hx]
      cases t with
      | nil =>
        rw [piece_nil, Option.bind_some, if_pos rfl]
        rfl
      | cons d t' =>
        obtain ⟨k2, rfl⟩ : ∃ k2, k' = k2 + 50 := ⟨k' - 50, by omega⟩
        rw [ref_piece]
        cases hE : escL (d :: t') with
        | none =>
          simp only
          rw [Option.bind_some, if_pos rfl]
          rfl
        | some x =>
          have hlen := escL_len (u := x.1) (r := x.2) hE
          have hdr := escL_drop (u := x.1) (r := x.2) hE
          obtain ⟨u, r⟩ := x
          simp only at hlen hdr ⊢
          have hL : (d :: t').length ≤ 100000 := by omega
          have hr2 : r.length ≤ n := by omega
          have hn2 : n ≤ 100000 := by omega
          have hk2 : 3 * n + 60 ≤ k2 + 50 := by omega
          clear hk hm hmk hdq hb hc plain h0 hl hn
          have hsz' : (⟨(c :: d :: t').toArray⟩ : ByteArray).size = (d :: t').length + 1 := hsz
          generalize hd : (d :: t').length - r.length = m at hdr
          have hus : (⟨u.toArray⟩ : ByteArray).size = u.length := rfl
          have hex : (⟨(c :: d :: t').toArray⟩ : ByteArray).extract (1 + m) (⟨(c :: d :: t').toArray⟩ : ByteArray).size = ⟨r.toArray⟩ := by
            refine ba_ext ?_
            rw [ba_extract, hsz, Nat.add_comm 1 m, List.take_of_length_le (by simp)]
            show List.drop m (d :: t') = r
            exact hdr.1.symm
          rw [Option.bind_some, if_neg (cnt_ne _ _ m hlen hd), if_pos (show out.size + (⟨u.toArray⟩ : ByteArray).size ≤ 9223372036854775807 from cnt_out _ _ _ ho hdr.2), cnt_wrap _ _ m hd hL, if_pos (cnt_nonneg m), if_pos (cnt_le _ _ m _ hd hsz'), Int.toNat_natCast, hex,
            ref_unq_loop dq n r _ (k2 + 50) hr2 hn2 (by rw [Q.size_append]; exact cnt_next _ _ _ _ ho hdr.2 hlen) hk2, Q.data_append]
    rw [P.driftnetref04_Unquote.l0, if_neg list_ne, if_pos (by omega), hb, unq_cons]
    by_cases c1 : c.toNat = markOf dq
    · rw [if_pos (by omega), P.driftnetref04_Unquote.j2, if_pos rfl, if_pos (Or.inl c1)]
      rfl
    · rw [if_neg (by omega)]
      by_cases d1 : dq = true
      · have d2 := hdq.2 d1
        rw [if_pos (by omega)]
        by_cases c2 : c.toNat = 10
        · rw [show ((c.toNat : Int) == 10) = true from beq_iff_eq.2 (by omega), P.driftnetref04_Unquote.j2, if_pos rfl, if_pos (Or.inr ⟨d1, c2⟩)]
          rfl
        · rw [show ((c.toNat : Int) == 10) = false from beq_eq_false_iff_ne.2 (by omega), P.driftnetref04_Unquote.j2, if_neg (by decide), if_neg (by omega), if_neg (by rintro (h | ⟨_, h⟩) <;> omega)]
          by_cases c3 : c.toNat = 92
          · rw [show ((c.toNat : Int) != 92) = false from by rw [show (c.toNat : Int) = 92 by omega]; rfl, if_pos ⟨d1, c3⟩]
            exact esc d1
          · rw [show ((c.toNat : Int) != 92) = true from bne_iff_ne.2 (by omega), if_neg (by rintro ⟨_, h⟩; omega)]
            exact plain
      · have d2 : markOf dq = 96 := by rcases hmk with h | h; exact absurd (hdq.1 h) d1; exact h
        rw [if_neg (by omega), P.driftnetref04_Unquote.j2, if_neg (by decide), if_pos (by omega), if_neg (by rintro (h | ⟨h, _⟩); omega; exact d1 h), if_neg (by rintro ⟨h, _⟩; exact d1 h)]
        exact plain

theorem ref_unquote (s : ByteArray) (hs : s.size ≤ 5000) (k : Nat) (hk : 16000 ≤ k) : P.driftnetref04_Unquote.f k s = some (P.unq2 (unquoteP s)) := by
  obtain ⟨k', rfl⟩ : ∃ k', k = k' + 1 := ⟨k - 1, by omega⟩
  have none0 : ∀ x, P.driftnetref04_Unquote.j0 (k' + 1) x true = some (P.unq2 none) := fun x => by rw [P.driftnetref04_Unquote.j0, if_pos rfl]; rfl
  have hsl : s = ⟨s.data.toList.toArray⟩ := ba_ext rfl
  rw [hsl]
  have hl : s.data.toList.length ≤ 5000 := by rw [ba_len]; exact hs
  generalize s.data.toList = l at hl
  unfold P.driftnetref04_Unquote.f
  have hsz : (⟨l.toArray⟩ : ByteArray).size = l.length := rfl
  by_cases h2 : l.length < 2
  · rw [if_pos (by omega), none0, unquoteP_short l h2]
  · rw [if_neg (by omega)]
    obtain ⟨q, m, e, rfl⟩ : ∃ q m e, l = q :: (m ++ [e]) := by
      cases l with
      | nil => simp at h2
      | cons q t =>
        have : t ≠ [] := by rintro rfl; simp at h2
        exact ⟨q, t.dropLast, t.getLast this, by rw [List.dropLast_concat_getLast]⟩
    have hsz2 : (⟨(q :: (m ++ [e])).toArray⟩ : ByteArray).size = m.length + 2 := by show (q :: (m ++ [e])).length = _; simp
    have hw : wrap64 (((⟨(q :: (m ++ [e])).toArray⟩ : ByteArray).size : Int) - 1) = ((⟨(q :: (m ++ [e])).toArray⟩ : ByteArray).size : Int) - 1 := by
      simp only [List.length_cons, List.length_append, List.length_nil] at hl
      unfold wrap64; omega
    rw [hw, if_pos (by omega), if_pos (by omega), if_pos (by omega), bt_zero, bt_last, unquoteP_mk]
    have hin : (⟨(q :: (m ++ [e])).toArray⟩ : ByteArray).extract 1 ((((⟨(q :: (m ++ [e])).toArray⟩ : ByteArray).size : Int) - 1)).toNat = ⟨m.toArray⟩ := by
      rw [show ((((⟨(q :: (m ++ [e])).toArray⟩ : ByteArray).size : Int) - 1)).toNat = m.length + 1 by omega]
      refine ba_ext ?_
      rw [ba_extract]
      simp
    have go : ∀ dq, q.toNat = markOf dq → P.driftnetref04_Unquote.j0 (k' + 1) ⟨(q :: (m ++ [e])).toArray⟩ false = some (P.unq2 (unq dq m [])) := fun dq hq => by
      rw [P.driftnetref04_Unquote.j0, if_neg (by decide), hw, if_pos (by omega), if_pos (by omega), if_pos (by omega), hin, bt_zero, hq]
      have hl' : m.length ≤ 5000 := by simp only [List.length_cons, List.length_append, List.length_nil] at hl; omega
      exact ref_unq_loop dq 5000 m ⟨#[]⟩ k' hl' (by omega) (by show 0 + _ ≤ _; omega) (by omega)
    have hqe : ((q.toNat : Int) = e.toNat) ↔ q = e := by
      constructor
      · intro h; exact UInt8.toNat_inj.1 (by omega)
      · intro h; rw [h]
    have hq : ∀ n : Nat, n < 256 → (((q.toNat : Int) = n) ↔ q = UInt8.ofNat n) := fun n hn => by
      constructor
      · intro h
        have : q.toNat = n := by omega
        rw [← this]; simp
      · intro h; rw [h]; simp; omega
    have h34 : ((q.toNat : Int) = 34) ↔ q = 34 := hq 34 (by omega)
    have h96 : ((q.toNat : Int) = 96) ↔ q = 96 := hq 96 (by omega)
    by_cases c1 : q = e
    · rw [if_pos (hqe.2 c1), if_pos c1]
      by_cases c2 : q = 34
      · rw [if_pos (h34.2 c2), if_pos c2]
        exact go true (by rw [c2]; rfl)
      · rw [if_neg (fun h => c2 (h34.1 h)), if_neg c2]
        by_cases c3 : q = 96
        · rw [show ((q.toNat : Int) != 96) = false from by rw [h96.2 c3]; rfl, if_pos c3]
          exact go false (by rw [c3]; rfl)
        · rw [show ((q.toNat : Int) != 96) = true from bne_iff_ne.2 (fun h => c3 (h96.1 h)), if_neg c3]
          exact none0 _
    · rw [if_neg (fun h => c1 (hqe.1 h)), if_neg c1]
      exact none0 _
end Go.Proofs.YtnmofpefofkoeaaGreatDoor
set_option linter.unusedVariables false
namespace Go.Proofs.YtnmofpefofkoeaaGreatDoor
open Go Go.RowKit Go.Lib Go.Proofs.YtnmofpefofkoeaaGreatDoorW.PrintWords Go.Proofs.YtnmofpefofkoeaaGreatDoorW.PrintLast Go.Proofs.YtnmofpefofkoeaaGreatDoorW.PrintMore Go.Proofs.YtnmofpefofkoeaaGreatDoor.P

theorem refPlain_all : ∀ c : Fin 256, P.driftnetref16_plain.f (c.val : Int) = some (plainB (UInt8.ofNat c.val)) := by decide +kernel
theorem refPlain_f (c : UInt8) : P.driftnetref16_plain.f (c.toNat : Int) = some (plainB c) := by
  have := refPlain_all ⟨c.toNat, c.toNat_lt⟩
  simpa using this
theorem run_loop (s : ByteArray) (hs : s.size ≤ 1000000) : ∀ (d i k : Nat), s.size - i = d → i ≤ s.size → d < k → P.driftnetref16_run.l0 k s (i : Int) = some ((i + plainN (s.data.toList.drop i) : Nat) : Int)
  | 0, i, k, hd, hi, hk => by
    obtain ⟨k, rfl⟩ : ∃ m, k = m + 1 := ⟨k - 1, by omega⟩
    have hl : s.data.toList.length = s.size := (Lib.size_eq s).symm
    have : s.data.toList.drop i = [] := List.drop_eq_nil_of_le (by omega)
    rw [P.driftnetref16_run.l0, if_neg (by omega), this, plainN]
    rfl
  | d + 1, i, k, hd, hi, hk => by
    obtain ⟨k, rfl⟩ : ∃ m, k = m + 1 := ⟨k - 1, by omega⟩
    obtain ⟨c, t, e, hb, et⟩ := bt_drop s i (by omega)
    have hw : wrap64 ((i : Int) + 1) = ((i + 1 : Nat) : Int) := by unfold wrap64; omega
    rw [P.driftnetref16_run.l0, if_pos (by omega), if_pos (by omega), hb, refPlain_f, Option.bind_some, e, plainN, hw]
    by_cases hp : plainB c = true
    · rw [if_pos hp, if_pos hp, run_loop s hs d (i + 1) k (by omega) (by omega) (by omega), et]
      congr 2; omega
    · rw [if_neg hp, if_neg hp]; rfl
theorem run_f (s : ByteArray) (hs : s.size ≤ 1000000) (k : Nat) (hk : s.size < k) : P.driftnetref16_run.f k s = some ((plainN s.data.toList : Nat) : Int) := by
  unfold P.driftnetref16_run.f
  have := run_loop s hs s.size 0 k (by omega) (by omega) hk
  rw [Nat.zero_add, List.drop_zero] at this
  exact this

/-- Where a text in quotes ends: both loops tell the same. -/
theorem quoted_same (s : ByteArray) (hs : s.size ≤ 1000000) : ∀ (d i k1 k2 : Nat), s.size - i ≤ d → 1 ≤ i → d < k1 → d < k2 →
    (P.driftnetref16_quoted.l0 k1 s (i : Int) = some 0 ∧ P.logfmt_reader_quoted.l0 k2 (i : Int) s = some (⟨#[]⟩, false, s)) ∨
    (∃ q : Nat, 1 < q ∧ q ≤ s.size ∧ P.driftnetref16_quoted.l0 k1 s (i : Int) = some (q : Int) ∧ P.logfmt_reader_quoted.l0 k2 (i : Int) s = (P.quote_Unquote.f (s.extract 0 q)).bind fun b => some (b.1, (b.2 == 0), s.extract q s.size))
  | d, i, 0, k2, _, _, h, _ => by omega
  | d, i, k1, 0, _, _, _, h => by omega
  | d, i, k1 + 1, k2 + 1, hd, h1, hk1, hk2 => by
    rw [P.driftnetref16_quoted.l0, P.logfmt_reader_quoted.l0]
    by_cases hi : i < s.size
    · obtain ⟨c, t, e, hb, et⟩ := bt_drop s i hi
      have hw : wrap64 ((i : Int) + 1) = ((i + 1 : Nat) : Int) := by unfold wrap64; omega
      have hw2 : wrap64 (((i + 1 : Nat) : Int) + 1) = ((i + 2 : Nat) : Int) := by unfold wrap64; omega
      simp only [if_pos (show (i : Int) < (s.size : Int) by omega), if_pos (show (0 : Int) ≤ (i : Int) by omega), hb, hw, hw2]
      cases d with
      | zero => omega
      | succ d =>
        by_cases hc1 : (c.toNat : Int) = 92
        · simp only [if_pos hc1]
          exact quoted_same s hs d (i + 2) k1 k2 (by omega) (by omega) (by omega) (by omega)
        · simp only [if_neg hc1]
          by_cases hc2 : (c.toNat : Int) = 34
          · simp only [if_pos hc2, if_pos (show (0 : Int) ≤ ((i + 1 : Nat) : Int) by omega), if_pos (show ((i + 1 : Nat) : Int) ≤ (s.size : Int) by omega), Int.toNat_natCast]
            exact .inr ⟨i + 1, by omega, by omega, rfl, rfl⟩
          · simp only [if_neg hc2]
            exact quoted_same s hs d (i + 1) k1 k2 (by omega) (by omega) (by omega) (by omega)
    · simp only [if_neg (show ¬ (i : Int) < (s.size : Int) by omega)]
      left; constructor <;> first | rfl | trivial

/-- Blanks are taken off: both loops tell the same. -/
theorem skip_same (x : Int) (out : List Lab) : ∀ (d : Nat) (s : ByteArray) (b : Bool) (k kk : Nat), s.size ≤ d → d < kk → d + 1 ≤ k → ∃ s3 k', s3.size ≤ s.size ∧ k ≤ k' + (s.size - s3.size) + 1 ∧ (s3.toList = ([] : List UInt8) ∨ (0 < s3.size ∧ ¬ bt s3 0 ≤ 32)) ∧
    P.logfmt_reader_skip.l0 kk x s = some (decide ((s3.size : Int) < x), s3) ∧ P.driftnetref16_Parse.l1 k out s b = P.driftnetref16_Parse.j2 k' out s3 (b || decide (s3.size < s.size))
  | d, s, b, 0, kk, _, _, h => by omega
  | d, s, b, k, 0, _, h, _ => by omega
  | d, s, b, k + 1, kk + 1, hd, hkk, hk => by
    rw [P.logfmt_reader_skip.l0, P.driftnetref16_Parse.l1]
    by_cases he : s.toList = []
    · simp only [if_pos he]
      exact ⟨s, k, Nat.le_refl _, by omega, .inl he, rfl, by simp⟩
    · have hpos : 0 < s.size := by
        rcases Nat.eq_zero_or_pos s.size with h | h
        · exact absurd (Q.toList_nil h) he
        · exact h
      simp only [if_neg he, if_pos (show (0 : Int) < (s.size : Int) by omega)]
      by_cases hb : bt s 0 ≤ 32
      · have hsz : (s.extract 1 s.size).size = s.size - 1 := by rw [ByteArray.size_extract]; omega
        simp only [if_pos hb, if_pos (show (1 : Int) ≤ (s.size : Int) by omega)]
        cases d with
        | zero => omega
        | succ d =>
          obtain ⟨s3, k', h1, h2, h3, h4, h5⟩ := skip_same x out d (s.extract 1 s.size) true k kk (by omega) (by omega) (by omega)
          refine ⟨s3, k', by omega, by omega, h3, h4, ?_⟩
          rw [h5, show decide (s3.size < s.size) = true from decide_eq_true (by omega)]
          simp
      · simp only [if_neg hb]
        exact ⟨s, k, Nat.le_refl _, by omega, .inr ⟨hpos, hb⟩, rfl, by simp⟩
end Go.Proofs.YtnmofpefofkoeaaGreatDoor
set_option linter.unusedVariables false
namespace Go.Proofs.YtnmofpefofkoeaaGreatDoor
open Go Go.RowKit Go.Lib Go.Proofs.YtnmofpefofkoeaaGreatDoorW.PrintWords Go.Proofs.YtnmofpefofkoeaaGreatDoorW.PrintLast Go.Proofs.YtnmofpefofkoeaaGreatDoorW.PrintMore Go.Proofs.YtnmofpefofkoeaaGreatDoor.P

theorem data_drop (s : ByteArray) (n : Nat) : (s.extract n s.size).data.toList = s.data.toList.drop n := by
  rw [ba_extract, List.take_of_length_le (by rw [ba_len]; exact Nat.le_refl _)]
theorem ref_unq_f (s : ByteArray) (hs : s.size ≤ 5000) (k : Nat) (hk : 16000 ≤ k) : P.driftnetref04_Unquote.f k s = P.quote_Unquote.f s := by
  rw [ref_unquote s hs k hk]
  unfold P.quote_Unquote.f
  rw [if_pos (by omega)]

inductive PairSame (s : ByteArray) (k kk : Nat) : Prop
  | bad (key v s' : ByteArray) (a b : ByteArray) (h1 : P.logfmt_reader_pair.f kk s = some (key, v, false, s')) (h2 : P.driftnetref16_pair.f k s = some (a, b, 0)) : PairSame s k kk
  | odd (key v s' a : ByteArray) (c : Nat) (hc : 0 < c) (hcs : c < s.size) (hb : bt (s.extract c s.size) 0 = 34) (hal : a.size ≤ s.size) (h1 : P.logfmt_reader_pair.f kk s = some (key, v, false, s')) (h2 : P.driftnetref16_pair.f k s = some (a, ⟨#[]⟩, (c : Int))) : PairSame s k kk
  | good (key v : ByteArray) (c : Nat) (hc : 0 < c) (hcs : c ≤ s.size) (hkl : key.size ≤ s.size) (h1 : P.logfmt_reader_pair.f kk s = some (key, v, true, s.extract c s.size)) (h2 : P.driftnetref16_pair.f k s = some (key, v, (c : Int))) : PairSame s k kk

theorem bt_first (c : UInt8) (t : List UInt8) : bt ⟨(c :: t).toArray⟩ 0 = (c.toNat : Int) := bt_zero c t
theorem extract_two (s : ByteArray) (a b : Nat) (h : a + b ≤ s.size) : (s.extract a s.size).extract b (s.extract a s.size).size = s.extract (a + b) s.size := by
  refine ba_ext ?_
  rw [data_drop, data_drop, data_drop, List.drop_drop]

theorem pair_same (s : ByteArray) (h0 : 0 < s.size) (hs : s.size ≤ 5000) (k kk : Nat) (hk : 16010 ≤ k) (hkk : s.size + 2 ≤ kk) : PairSame s k kk := by
  have hll : s.data.toList.length = s.size := ba_len s
  have hn := plainN_le s.data.toList
  have hrun := run_f s (by omega) k (by omega)
  have hpl : P.logfmt_reader_plain.f s = some (s.extract 0 (plainN s.data.toList), s.extract (plainN s.data.toList) s.size) := by
    unfold P.logfmt_reader_plain.f; rw [if_pos (by omega)]
  generalize plainN s.data.toList = n at hn hrun hpl
  obtain ⟨k, rfl⟩ : ∃ m, k = m + 1 := ⟨k - 1, by omega⟩
  by_cases hn0 : n = 0
  · subst hn0
    refine .bad ⟨#[]⟩ ⟨#[]⟩ (s.extract 0 s.size) ⟨#[]⟩ ⟨#[]⟩ ?_ ?_
    · unfold P.logfmt_reader_pair.f
      rw [hpl, Option.bind_some]
      simp only
      rw [if_pos (Q.toList_nil (by rw [ByteArray.size_extract]; omega))]
    · unfold P.driftnetref16_pair.f
      rw [hrun, Option.bind_some, if_pos (show ((0 : Nat) : Int) = 0 from rfl)]
  · have hkey : (s.extract 0 n).size = n := by rw [ByteArray.size_extract]; omega
    have hr0 : ∀ X : Option (ByteArray × ByteArray × Bool × ByteArray), ((strings_CutPrefix.f (s.extract n s.size) (⟨#[61]⟩ : ByteArray)).bind fun bt3 => (if bt3.2 = true then ((strings_HasPrefix.f bt3.1 (⟨#[34]⟩ : ByteArray)).bind fun t5 => (if t5 = true then ((logfmt_reader_quoted.f kk bt3.1).bind fun bt6 => (some (s.extract 0 n, bt6.1, bt6.2.1, bt6.2.2))) else ((logfmt_reader_plain.f bt3.1).bind fun bt9 => (some (s.extract 0 n, bt9.1, true, bt9.2))))) else (some (s.extract 0 n, (⟨#[]⟩ : ByteArray), true, s.extract n s.size)))) = X → P.logfmt_reader_pair.f kk s = X := fun X hX => by
      unfold P.logfmt_reader_pair.f
      rw [hpl, Option.bind_some]
      simp only
      rw [if_neg (Q.toList_ne (by omega))]
      exact hX
    have hq0 : ∀ X : Option (ByteArray × ByteArray × Int), (if (n : Int) ≥ (s.size : Int) then P.driftnetref16_pair.j0 (k + 1) s (n : Int) (s.extract 0 n) true else (if (n : Int) < (s.size : Int) then P.driftnetref16_pair.j0 (k + 1) s (n : Int) (s.extract 0 n) (bt s (n : Int) != 61) else none)) = X → P.driftnetref16_pair.f (k + 1) s = X := fun X hX => by
      unfold P.driftnetref16_pair.f
      rw [hrun, Option.bind_some, if_neg (by omega), if_pos (by omega), if_pos (by omega), Int.toNat_natCast]
      exact hX
    have HR0 := Aside0.mk hr0
    have HQ0 := Aside0.mk hq0
    clear hr0 hq0
    by_cases hns : n < s.size
    · obtain ⟨c, t, e, hb, et⟩ := bt_drop s n hns
      have HBT := Aside0.mk hb
      clear hb
      have hD : s.extract n s.size = ⟨(c :: t).toArray⟩ := ba_ext (by rw [data_drop, e])
      have hT : s.extract (n + 1) s.size = ⟨t.toArray⟩ := ba_ext (by rw [data_drop, et])
      have htl : t.length = s.size - (n + 1) := by rw [← et, List.length_drop, hll]
      by_cases hc : c = 61
      · have hcn : (c.toNat : Int) = 61 := by rw [hc]; rfl
        have hcut : P.strings_CutPrefix.f (s.extract n s.size) ⟨#[61]⟩ = some (⟨t.toArray⟩, true) := by
          rw [hD, hc]; unfold P.strings_CutPrefix.f; simp [Lib.trimPrefix, Lib.hasPrefix]
        clear hc hD e
        have hts : (⟨t.toArray⟩ : ByteArray).size = t.length := rfl
        have HW : Aside0 (wrap64 ((n : Int) + 1) = ((n + 1 : Nat) : Int)) := ⟨by unfold wrap64; omega⟩
        have hj0 : ∀ X : Option (ByteArray × ByteArray × Int), ((driftnetref16_quoted.f k ⟨t.toArray⟩).bind fun t2 => (if t2 > 0 then (if 0 ≤ t2 then (if t2 ≤ ((⟨t.toArray⟩ : ByteArray).size : Int) then ((driftnetref04_Unquote.f k ((⟨t.toArray⟩ : ByteArray).extract 0 (t2 : Int).toNat)).bind fun bt3 => (if bt3.2 = 0 then (some (s.extract 0 n, bt3.1, wrap64 (((n + 1 : Nat) : Int) + t2))) else (some ((⟨#[]⟩ : ByteArray), (⟨#[]⟩ : ByteArray), 0)))) else (none)) else (none)) else ((driftnetref16_run.f k ⟨t.toArray⟩).bind fun t5 => (if 0 ≤ t5 then (if t5 ≤ ((⟨t.toArray⟩ : ByteArray).size : Int) then (some (s.extract 0 n, (⟨t.toArray⟩ : ByteArray).extract 0 (t5 : Int).toNat, wrap64 (((n + 1 : Nat) : Int) + t5))) else (none)) else (none))))) = X → P.driftnetref16_pair.f (k + 1) s = X := fun X hX => by
          refine HQ0.out X ?_
          have HX := Aside0.mk hX
          clear hX
          rw [if_neg (by omega), if_pos (by omega), HBT.out, show ((c.toNat : Int) != 61) = false from by rw [hcn]; rfl, P.driftnetref16_pair.j0, if_neg (by decide), HW.out, if_pos (by omega), if_pos (by omega), Int.toNat_natCast, hT]
          exact HX.out
        have HJ0 := Aside0.mk hj0
        clear hj0
        have hrt := run_f ⟨t.toArray⟩ (by rw [hts]; omega) k (by rw [hts]; omega)
        have hplt : P.logfmt_reader_plain.f ⟨t.toArray⟩ = some ((⟨t.toArray⟩ : ByteArray).extract 0 (plainN t), (⟨t.toArray⟩ : ByteArray).extract (plainN t) (⟨t.toArray⟩ : ByteArray).size) := by
          unfold P.logfmt_reader_plain.f; rw [if_pos (by rw [hts]; omega)]
        have hpt := plainN_le t
        have nq : (P.driftnetref16_quoted.f k ⟨t.toArray⟩ = some 0) → P.strings_HasPrefix.f ⟨t.toArray⟩ ⟨#[34]⟩ = some false → PairSame s (k + 1) kk := fun h1 h2 => by
          refine .good (s.extract 0 n) ((⟨t.toArray⟩ : ByteArray).extract 0 (plainN t)) (n + 1 + plainN t) (by omega) (by omega) (by omega) (HR0.out _ ?_) (HJ0.out _ ?_)
          · rw [hcut, Option.bind_some]
            simp only
            rw [if_pos trivial, h2, Option.bind_some, if_neg (by decide), hplt, Option.bind_some]
            simp only
            rw [← hT, extract_two s (n + 1) (plainN t) (by omega)]
          · rw [h1, Option.bind_some, if_neg (by omega), hrt, Option.bind_some]
            show (if (0 : Int) ≤ ((plainN t : Nat) : Int) then _ else _) = _
            rw [if_pos (by omega), if_pos (by rw [hts]; show ((plainN t : Nat) : Int) ≤ _; omega), show wrap64 (((n + 1 : Nat) : Int) + ((plainN t : Nat) : Int)) = ((n + 1 + plainN t : Nat) : Int) by unfold wrap64; omega]
            rfl
        have NQ := Aside0.mk nq
        clear nq
        obtain ⟨k, rfl⟩ : ∃ m, k = m + 1 := ⟨k - 1, by omega⟩
        cases t with
        | nil => exact NQ.out (by unfold P.driftnetref16_quoted.f; rw [if_pos (Q.toList_nil rfl), P.driftnetref16_quoted.j0, if_pos rfl]) (by unfold P.strings_HasPrefix.f; simp [Lib.hasPrefix])
        | cons e t2 =>
          have HBE := Aside0.mk (bt_first e t2)
          by_cases he : e = 34
          · have hen : (e.toNat : Int) = 34 := by rw [he]; rfl
            have hqf : P.driftnetref16_quoted.f (k + 1) ⟨(e :: t2).toArray⟩ = P.driftnetref16_quoted.l0 k ⟨(e :: t2).toArray⟩ 1 := by
              unfold P.driftnetref16_quoted.f
              rw [if_neg (Q.toList_ne (by rw [hts]; simp)), if_pos (by rw [hts]; simp), HBE.out, show ((e.toNat : Int) != 34) = false from by rw [hen]; rfl, P.driftnetref16_quoted.j0, if_neg (by decide)]
            have hhas : P.strings_HasPrefix.f ⟨(e :: t2).toArray⟩ ⟨#[34]⟩ = some true := by unfold P.strings_HasPrefix.f; simp [Lib.hasPrefix, he]
            have hrd : ∀ X : Option (ByteArray × ByteArray × Bool × ByteArray), ((P.logfmt_reader_quoted.f kk ⟨(e :: t2).toArray⟩).bind fun bt6 => some (s.extract 0 n, bt6.1, bt6.2.1, bt6.2.2)) = X → P.logfmt_reader_pair.f kk s = X := fun X hX => HR0.out X (by
              have HX := Aside0.mk hX
              clear hX
              rw [hcut, Option.bind_some]
              simp only
              rw [if_pos trivial, hhas, Option.bind_some, if_pos rfl]
              exact HX.out)
            have HRD := Aside0.mk hrd
            clear hrd
            have hrq : P.logfmt_reader_quoted.f kk ⟨(e :: t2).toArray⟩ = P.logfmt_reader_quoted.l0 kk ((1 : Nat) : Int) ⟨(e :: t2).toArray⟩ := rfl
            have hp0 : plainN (e :: t2) = 0 := by rw [he]; rfl
            clear he
            rcases quoted_same ⟨(e :: t2).toArray⟩ (by rw [hts]; omega) (e :: t2).length 1 k kk (by rw [hts]; omega) (Nat.le_refl _) (by omega) (by omega) with ⟨q1, q2⟩ | ⟨q, hq1, hq2, q1, q2⟩
            · refine .odd (s.extract 0 n) ⟨#[]⟩ ⟨(e :: t2).toArray⟩ (s.extract 0 n) (n + 1) (by omega) (by simp at htl; omega) (by rw [hT, HBE.out, hen]) (by omega) (HRD.out _ ?_) (HJ0.out _ ?_)
              · rw [hrq, q2]; rfl
              · rw [hqf, show (1 : Int) = ((1 : Nat) : Int) from rfl, q1, Option.bind_some, if_neg (by omega), hrt, Option.bind_some]
                show (if (0 : Int) ≤ ((plainN (e :: t2) : Nat) : Int) then (if ((plainN (e :: t2) : Nat) : Int) ≤ _ then some (_, _, wrap64 (((n + 1 : Nat) : Int) + ((plainN (e :: t2) : Nat) : Int))) else none) else none) = _
                rw [hp0, if_pos (by omega), if_pos (by omega)]
                rw [show wrap64 (((n + 1 : Nat) : Int) + ((0 : Nat) : Int)) = ((n + 1 : Nat) : Int) by unfold wrap64; omega]
                rfl
            · have hus : ((⟨(e :: t2).toArray⟩ : ByteArray).extract 0 q).size ≤ 5000 := by rw [ByteArray.size_extract]; rw [hts] at hq2 ⊢; omega
              have hu := ref_unq_f ((⟨(e :: t2).toArray⟩ : ByteArray).extract 0 q) hus (k + 1) (by omega)
              obtain ⟨ve, hve⟩ : ∃ ve, P.quote_Unquote.f ((⟨(e :: t2).toArray⟩ : ByteArray).extract 0 q) = some ve := by
                unfold P.quote_Unquote.f; rw [if_pos (by omega)]; exact ⟨_, rfl⟩
              obtain ⟨v, er⟩ := ve
              have hlhs : ∀ X : Option (ByteArray × ByteArray × Int), (if er = 0 then (some (s.extract 0 n, v, wrap64 (((n + 1 : Nat) : Int) + (q : Int)))) else (some ((⟨#[]⟩ : ByteArray), (⟨#[]⟩ : ByteArray), 0))) = X → P.driftnetref16_pair.f (k + 1 + 1) s = X := fun X hX => HJ0.out X (by
                have HX := Aside0.mk hX
                clear hX
                rw [hqf, show (1 : Int) = ((1 : Nat) : Int) from rfl, q1, Option.bind_some, if_pos (by omega), if_pos (by omega), if_pos (by rw [hts] at hq2 ⊢; omega), Int.toNat_natCast, hu, hve, Option.bind_some]
                exact HX.out)
              have HLHS := Aside0.mk hlhs
              clear hlhs
              have hrl : P.logfmt_reader_pair.f kk s = some (s.extract 0 n, v, (er == 0), (⟨(e :: t2).toArray⟩ : ByteArray).extract q (⟨(e :: t2).toArray⟩ : ByteArray).size) := HRD.out _ (by
                rw [hrq, q2, hve]; rfl)
              by_cases her : er = 0
              · refine .good (s.extract 0 n) v (n + 1 + q) (by omega) (by rw [hts] at hq2; omega) (by omega) ?_ (HLHS.out _ ?_)
                · rw [hrl, her, ← hT, extract_two s (n + 1) q (by rw [hts] at hq2; omega)]; rfl
                · rw [if_pos her, show wrap64 (((n + 1 : Nat) : Int) + (q : Int)) = ((n + 1 + q : Nat) : Int) by unfold wrap64; rw [hts] at hq2; omega]
              · refine .bad (s.extract 0 n) v ((⟨(e :: t2).toArray⟩ : ByteArray).extract q (⟨(e :: t2).toArray⟩ : ByteArray).size) ⟨#[]⟩ ⟨#[]⟩ ?_ (HLHS.out _ (by rw [if_neg her]))
                · rw [hrl, beq_eq_false_iff_ne.2 her]
          · have he' : ¬ (e.toNat : Int) = 34 := fun h => he (UInt8.toNat_inj.1 (by show e.toNat = 34; omega))
            exact NQ.out (by
              unfold P.driftnetref16_quoted.f
              rw [if_neg (Q.toList_ne (by rw [hts]; simp)), if_pos (by rw [hts]; simp), HBE.out, show ((e.toNat : Int) != 34) = true from bne_iff_ne.2 he', P.driftnetref16_quoted.j0, if_pos rfl]) (by
              unfold P.strings_HasPrefix.f; simp [Lib.hasPrefix, List.isPrefixOf]; intro h; exact he h.symm)
      · have hc' : ¬ (c.toNat : Int) = 61 := fun h => hc (UInt8.toNat_inj.1 (by show c.toNat = 61; omega))
        refine .good (s.extract 0 n) ⟨#[]⟩ n (by omega) (by omega) (by omega) (HR0.out _ ?_) (HQ0.out _ ?_)
        · have hcut : P.strings_CutPrefix.f (s.extract n s.size) ⟨#[61]⟩ = some (⟨(c :: t).toArray⟩, false) := by
            rw [hD]; unfold P.strings_CutPrefix.f
            have h1 : Lib.hasPrefix (c :: t) [61] = false := by simp [Lib.hasPrefix, List.isPrefixOf]; intro h; exact hc h.symm
            show some (_, Lib.hasPrefix (c :: t) [61]) = _
            rw [h1]; simp [Lib.trimPrefix, h1]
          rw [hcut, Option.bind_some]
          simp only
          rw [if_neg (show ¬ (false = true) by decide), hD]
        · rw [if_neg (by omega), if_pos (by omega), HBT.out, show ((c.toNat : Int) != 61) = true from bne_iff_ne.2 hc', P.driftnetref16_pair.j0, if_pos rfl]
    · have hns2 : n = s.size := by omega
      refine .good (s.extract 0 n) ⟨#[]⟩ n (by omega) (by omega) (by omega) (HR0.out _ ?_) (HQ0.out _ ?_)
      · have hD : s.extract n s.size = ⟨([] : List UInt8).toArray⟩ := ba_ext (by rw [data_drop, List.drop_eq_nil_of_le (by omega)])
        have hcut : P.strings_CutPrefix.f ⟨([] : List UInt8).toArray⟩ ⟨#[61]⟩ = some (⟨([] : List UInt8).toArray⟩, false) := by
          unfold P.strings_CutPrefix.f; simp [Lib.trimPrefix, Lib.hasPrefix]
        rw [hD, hcut, Option.bind_some]
        simp only
        rw [if_neg (show ¬ (false = true) by decide)]
      · rw [if_pos (by omega), P.driftnetref16_pair.j0, if_pos rfl]
end Go.Proofs.YtnmofpefofkoeaaGreatDoor
set_option linter.unusedVariables false
namespace Go.Proofs.YtnmofpefofkoeaaGreatDoor
open Go Go.RowKit Go.Lib Go.Proofs.YtnmofpefofkoeaaGreatDoorW.PrintWords Go.Proofs.YtnmofpefofkoeaaGreatDoorW.PrintLast Go.Proofs.YtnmofpefofkoeaaGreatDoorW.PrintMore Go.Proofs.YtnmofpefofkoeaaGreatDoor.P

theorem inOrder_tot (l : List Lab) (hl : l.length ≤ 1000000) : ∀ (d i k : Nat), l.length - i = d → i ≤ l.length → d < k → ∃ b, P.labels_inOrder.l0 k l l (l.length : Int) (i : Int) = some b
  | 0, i, k, hd, hi, hk => by
    obtain ⟨k, rfl⟩ : ∃ m, k = m + 1 := ⟨k - 1, by omega⟩
    rw [P.labels_inOrder.l0, if_neg (by omega)]
    exact ⟨_, rfl⟩
  | d + 1, i, k, hd, hi, hk => by
    obtain ⟨k, rfl⟩ : ∃ m, k = m + 1 := ⟨k - 1, by omega⟩
    have hw : wrap64 ((i : Int) + 1) = ((i + 1 : Nat) : Int) := by unfold wrap64; omega
    have ih := inOrder_tot l hl d (i + 1) k (by omega) (by omega) (by omega)
    rw [P.labels_inOrder.l0, if_pos (by omega), if_pos (by omega), if_pos (by omega), hw]
    split
    · exact ⟨_, rfl⟩
    · split
      · have hw2 : wrap64 ((i : Int) - 1) = (i : Int) - 1 := by unfold wrap64; omega
        rw [hw2, if_pos (by omega), if_pos (by omega)]
        split
        · exact ih
        · exact ⟨_, rfl⟩
      · exact ih
theorem set_tot (l : List Lab) (hl : l.length ≤ 999999) (n v : ByteArray) : ∃ r, P.labels_Set.f l n v = some r ∧ r.length ≤ l.length + 1 := by
  obtain ⟨b, hb⟩ := inOrder_tot l (by omega) l.length 0 (l.length + 1) (by omega) (by omega) (by omega)
  unfold P.labels_Set.f
  have hb2 : P.labels_inOrder.f (l.length + 1) l = some b := hb
  rw [if_pos hl, hb2, Option.bind_some]
  refine ⟨_, rfl, ?_⟩
  have hf := List.length_filter_le (keepB n) l
  split
  · unfold setP
    split
    · omega
    · simp only [List.length_append, List.length_cons, List.length_take, List.length_drop]; omega
  · simp

theorem same_lp (l : List Lab) (hl : l.length ≤ 1000000) : ∀ (d i k : Nat), l.length - i = d → i ≤ l.length → d < k → P.driftnetlaw16_same.l0 k l l (i : Int) = some true
  | 0, i, k, hd, hi, hk => by
    obtain ⟨k, rfl⟩ : ∃ m, k = m + 1 := ⟨k - 1, by omega⟩
    rw [P.driftnetlaw16_same.l0, if_neg (by omega)]
  | d + 1, i, k, hd, hi, hk => by
    obtain ⟨k, rfl⟩ : ∃ m, k = m + 1 := ⟨k - 1, by omega⟩
    have hw : wrap64 ((i : Int) + 1) = ((i + 1 : Nat) : Int) := by unfold wrap64; omega
    rw [P.driftnetlaw16_same.l0, if_pos (by omega), if_pos (by omega), if_pos (by omega), hw, if_neg (by simp)]
    exact same_lp l hl d (i + 1) k (by omega) (by omega) (by omega)
theorem same_refl (l : List Lab) (hl : l.length ≤ 1000000) (k : Nat) (hk : l.length < k) : P.driftnetlaw16_same.f k l l = some true := by
  unfold P.driftnetlaw16_same.f
  rw [if_pos rfl]
  exact same_lp l hl l.length 0 k (by omega) (by omega) hk

end Go.Proofs.YtnmofpefofkoeaaGreatDoor
set_option linter.unusedVariables false
namespace Go.Proofs.YtnmofpefofkoeaaGreatDoor
open Go Go.RowKit Go.Lib Go.Proofs.YtnmofpefofkoeaaGreatDoorW.PrintWords Go.Proofs.YtnmofpefofkoeaaGreatDoorW.PrintLast Go.Proofs.YtnmofpefofkoeaaGreatDoorW.PrintMore Go.Proofs.YtnmofpefofkoeaaGreatDoor.P

theorem odd_none (u : ByteArray) (h0 : 0 < u.size) (hu : u.size ≤ 5000) (hb : bt u 0 = 34) (out : List Lab) (k : Nat) (hk : 20000 ≤ k) : P.driftnetref16_Parse.l1 k out u false = some ([], false) := by
  obtain ⟨k, rfl⟩ : ∃ m, k = m + 4 := ⟨k - 4, by omega⟩
  have hne : ¬ u.toList = [] := Q.toList_ne (by omega)
  have hrun := run_f u (by omega) (k + 2) (by omega)
  have hp : plainN u.data.toList = 0 := by
    obtain ⟨c, t, e, hb2, _⟩ := bt_drop u 0 h0
    rw [List.drop_zero] at e
    have hc : c.toNat = 34 := by
      have : bt u 0 = (c.toNat : Int) := hb2
      omega
    have hc2 : c = 34 := UInt8.toNat_inj.1 hc
    rw [e, hc2]; rfl
  rw [hp] at hrun
  rw [P.driftnetref16_Parse.l1, if_neg hne, if_pos (by omega), if_neg (by omega), P.driftnetref16_Parse.j2, if_neg hne]
  unfold P.driftnetref16_pair.f
  rw [hrun, Option.bind_some, if_pos (show ((0 : Nat) : Int) = 0 from rfl), Option.bind_some]
  simp only
  rw [if_pos trivial, P.driftnetref16_Parse.j3, if_pos rfl]

theorem parse_same (kk : Nat) : ∀ (n : Nat) (s : ByteArray) (out : List Lab) (ap : Bool) (N k : Nat), s.size ≤ n → n ≤ 5000 → (s.toList = ([] : List UInt8) ∨ (0 < s.size ∧ ¬ bt s 0 ≤ 32)) → out.length + n ≤ 10000 → n < N → n + 10 ≤ kk → 60000 + 10 * n ≤ k →
    ∃ r, P.parseLoop kk N out ap s = some r ∧ P.driftnetref16_Parse.j2 k out s ap = some r ∧ r.1.length ≤ 10001
  | n, s, out, ap, 0, k, _, _, _, _, h, _, _ => by omega
  | n, s, out, ap, N + 1, k, hs, hn, hb, ho, hN, hkk, hk => by
    obtain ⟨k, rfl⟩ : ∃ m, k = m + 1 := ⟨k - 1, by omega⟩
    rw [P.parseLoop, P.driftnetref16_Parse.j2]
    by_cases he : s.toList = []
    · simp only [if_pos he]
      exact ⟨(out, true), rfl, rfl, by show out.length ≤ _; omega⟩
    · have hpos : 0 < s.size := by
        rcases hb with h | h
        · exact absurd h he
        · exact h.1
      simp only [if_neg he]
      obtain ⟨k, rfl⟩ : ∃ m, k = m + 1 := ⟨k - 1, by omega⟩
      rcases pair_same s hpos (by omega) (k + 1) kk (by omega) (by omega) with ⟨key, v, s', a, b, h1, h2⟩ | ⟨key, v, s', a, c, hc, hcs, hb34, hal, h1, h2⟩ | ⟨key, v, c, hc, hcs, hkl, h1, h2⟩
      · rw [h1, h2, Option.bind_some, Option.bind_some]
        simp only
        rw [if_neg (by decide), if_pos trivial, P.driftnetref16_Parse.j3, if_pos rfl]
        exact ⟨([], false), rfl, rfl, by simp⟩
      · rw [h1, h2, Option.bind_some, Option.bind_some]
        simp only
        rw [if_neg (by decide), if_neg (show ¬ (c : Int) = 0 by omega), P.driftnetref16_Parse.j3]
        refine ⟨([], false), rfl, ?_, by simp⟩
        cases ap with
        | false => rfl
        | true =>
          rw [if_neg (by decide)]
          have hcl : P.labels_Clean.f a = P.driftnetref05_Clean.f a := rfl
          obtain ⟨nm, hnm⟩ : ∃ nm, P.labels_Clean.f a = some nm := by
            unfold P.labels_Clean.f; rw [if_pos (by omega)]; exact ⟨_, rfl⟩
          obtain ⟨out2, hst, hol⟩ := set_tot out (by omega) nm ⟨#[]⟩
          have hsz2 : (s.extract c s.size).size = s.size - c := by rw [ByteArray.size_extract]; omega
          rw [← hcl, hnm, Option.bind_some, ref_set out (by omega) nm ⟨#[]⟩ k (by omega), hst, Option.bind_some, if_pos (by omega), if_pos (by omega), Int.toNat_natCast]
          obtain ⟨k, rfl⟩ : ∃ m, k = m + 1 := ⟨k - 1, by omega⟩
          rw [P.driftnetref16_Parse.l0]
          generalize s.extract c s.size = u at hb34 hsz2
          exact odd_none u (by omega) (by omega) hb34 out2 k (by omega)
      · rw [h1, h2, Option.bind_some, Option.bind_some]
        simp only
        rw [if_pos trivial, if_neg (show ¬ (c : Int) = 0 by omega), P.driftnetref16_Parse.j3]
        cases ap with
        | false => exact ⟨([], false), rfl, rfl, by simp⟩
        | true =>
          rw [if_pos rfl, if_neg (by decide)]
          have hcl : P.labels_Clean.f key = P.driftnetref05_Clean.f key := rfl
          obtain ⟨nm, hnm⟩ : ∃ nm, P.labels_Clean.f key = some nm := by
            unfold P.labels_Clean.f; rw [if_pos (by omega)]; exact ⟨_, rfl⟩
          obtain ⟨out2, hst, hol⟩ := set_tot out (by omega) nm v
          have hsz2 : (s.extract c s.size).size = s.size - c := by rw [ByteArray.size_extract]; omega
          rw [← hcl, hnm, Option.bind_some, Option.bind_some, ref_set out (by omega) nm v k (by omega), hst, Option.bind_some, Option.bind_some, if_pos (by omega), if_pos (by omega), Int.toNat_natCast]
          obtain ⟨k, rfl⟩ : ∃ m, k = m + 1 := ⟨k - 1, by omega⟩
          rw [P.driftnetref16_Parse.l0]
          obtain ⟨s3, k', q1, q2, q3, q4, q5⟩ := skip_same ((s.extract c s.size).size : Int) out2 (n - 1) (s.extract c s.size) false k kk (by omega) (by omega) (by omega)
          have hsk : P.logfmt_reader_skip.f kk (s.extract c s.size) = some (decide ((s3.size : Int) < ((s.extract c s.size).size : Int)), s3) := q4
          rw [hsk, Option.bind_some, q5]
          simp only
          rw [show (false || decide (s3.size < (s.extract c s.size).size)) = decide ((s3.size : Int) < ((s.extract c s.size).size : Int)) by simp]
          exact parse_same kk s3.size s3 out2 _ N k' (by omega) (by omega) q3 (by omega) (by omega) (by omega) (by omega)
end Go.Proofs.YtnmofpefofkoeaaGreatDoor
set_option linter.unusedVariables false
namespace Go.Proofs.YtnmofpefofkoeaaGreatDoor
open Go Go.RowKit Go.Lib Go.Proofs.YtnmofpefofkoeaaGreatDoorW.PrintWords Go.Proofs.YtnmofpefofkoeaaGreatDoorW.PrintLast Go.Proofs.YtnmofpefofkoeaaGreatDoorW.PrintMore Go.Proofs.YtnmofpefofkoeaaGreatDoor.P

theorem parse_eq (s : ByteArray) (hs : s.size ≤ 5000) (k : Nat) (hk : 200000 ≤ k) : ∃ r, P.logfmt_Parse.f s = some r ∧ P.driftnetref16_Parse.f k s = some r ∧ r.1.length ≤ 10001 := by
  obtain ⟨k, rfl⟩ : ∃ m, k = m + 1 := ⟨k - 1, by omega⟩
  unfold P.logfmt_Parse.f P.driftnetref16_Parse.f
  rw [P.driftnetref16_Parse.l0]
  obtain ⟨s3, k', q1, q2, q3, q4, q5⟩ := skip_same (s.size : Int) [] s.size s true k (3 * s.size + 100) (Nat.le_refl _) (by omega) (by omega)
  have hsk : P.logfmt_reader_skip.f (3 * s.size + 100) s = some (decide ((s3.size : Int) < (s.size : Int)), s3) := q4
  rw [hsk, Option.bind_some, q5, Bool.true_or]
  exact parse_same (3 * s.size + 100) s3.size s3 [] true (s.size + 1) k' (Nat.le_refl _) (by omega) q3 (by simp; omega) (by omega) (by omega) (by omega)
theorem works_low : P.driftnetlaw16_works.f 3000 = some true := by decide +kernel
theorem works_up : ∀ m, P.driftnetlaw16_works.f (3000 + m) = some true
  | 0 => works_low
  | m + 1 => P.driftnetlaw16_works.mono (3000 + m) true (works_up m)
theorem logfmtParses_pure : P.driftnetlaw16_LogfmtParses.Pure := by
  intro a0 h
  refine ⟨3000 + 197000, ?_⟩
  have hw := works_up 197000
  generalize hk : 3000 + 197000 = k at hw
  unfold P.driftnetlaw16_LogfmtParses.f
  have hm : mn (a0.size : Int) 5000 = ((min a0.size 5000 : Nat) : Int) := by unfold mn; split <;> omega
  have hsz : (a0.extract 0 (min a0.size 5000)).size = min a0.size 5000 := by rw [ByteArray.size_extract]; omega
  rw [hm, if_pos (by omega), if_pos (by omega), Int.toNat_natCast]
  generalize a0.extract 0 (min a0.size 5000) = s at hsz
  obtain ⟨r, h1, h2, hl⟩ := parse_eq s (by omega) k (by omega)
  rw [h1, Option.bind_some, h2, Option.bind_some, same_refl r.1 (by omega) _ (by omega), Option.bind_some, if_pos rfl, if_pos (by simp), hw, Option.bind_some]
end Go.Proofs.YtnmofpefofkoeaaGreatDoor
namespace Go.Proofs.YtnmofpefofkoeaaGreatDoor.logfmtParses
open Go Go.ChangeShapes Go.WideShapes Go.ChangeAt Go.RowKit
open Go.ChangeMaps (open_string shut_string)
set_option linter.unusedVariables false
theorem own : ownKnob Tryz.prog.godebug = none := by kernel_rfl
set_option maxRecDepth 100000 in
theorem lifted (PU : P.driftnetlaw16_LogfmtParses.Pure) (os : Os) (started : os.Started) (H : Type) (enc : TypeId × Value → H) :
    ReturnsInHanded {} Tryz.checked os 3 .any (fun w args => (Rows.logfmtParsesSpec.pre enc Tryz.prog Tryz.f3 Rows.logfmtParsesRow.domain false w args ∧ laidMetH Tryz.prog Rows.logfmtParsesRow.laid w) ∧ sizedMet enc Tryz.prog Tryz.f3 (OpenSpec.ofChange Rows.logfmtParsesSpec) false w args)
      (Rows.logfmtParsesSpec.post enc Tryz.prog Tryz.f3 false true false false) := by
  refine returnsInHanded_of_change_and (C := Tryz.checked) (X := fun w _ => laidMetH Tryz.prog laidL w) (fun _ _ _ hh h => h.of_heap hh) own started (by kernel_rfl) Tryz.func3
    (ChangeSpec.witness_shaped (enc := enc) (C := Tryz.checked) (os := os) (X := fun w _ => laidMetH Tryz.prog laidL w) false (world0 os) #[.string ⟨#[]⟩] 8 (world0_os _)
      (World.shaped_of_ZipB (by kernel_rfl) (by kernel_rfl)) (by kernel_rfl) (by kernel_rfl) (by kernel_rfl) (world0_met os _)) ?_
  intro W base args ds gs before hval0 hW hcnd hsz0 hL _
  have hsz : (DataW.weightsEach Tryz.prog (Tryz.f3.params.toList ++ Rows.logfmtParsesSpec.plain.varTypes Tryz.prog) (ds ++ gs)).all (· ≤ reachBytes) = true := hsz0
  have hval : ∀ (j : Nat) t v, Tryz.f3.params[j]? = some t → args[j]? = some v → Value.okWide Tryz.prog W .any base t v := hval0
  have hW' := hW
  obtain ⟨p, q, hA0, hV, rfl, hfz, hnd⟩ := hW
  have hA : DataW.TrodAll enc Tryz.prog W 0 (fun _ => true) true Tryz.f3.params.toList args.toList ds p := hA0
  rw [Tryz.params3] at hA hval hsz
  obtain ⟨v0, vs0, d0, ds0, p0, q0, hargs, rfl, rfl, h0, r0⟩ := trodAll_cons hA
  obtain ⟨rfl, rfl, rfl⟩ := trodAll_nil r0
  obtain rfl : args = #[v0] := by cases args; simp_all
  obtain ⟨rfl, rfl⟩ := trodVars_none hV
  obtain ⟨a0, rfl, rfl, rfl, y0⟩ := open_string Tryz.underlying9 (hval 0 9 v0 rfl rfl) h0
  have w0 : a0.size ≤ 140737488351232 := by
    have z := sized_string hsz (j := 0) (t := 9) rfl rfl
    rw [Array.length_toList] at z
    exact z
  clear hA0 hval0 hsz0 hsz
  refine (P.driftnetlaw16_LogfmtParses.walk PU a0 W ⟨G_of_laid hL⟩ w0).mono fun e W' ⟨he, bel⟩ => ?_
  subst he
  exact ⟨_, rfl, _, _, _, [], _, [], hW', trodAll_mk1 (shut_bool Tryz.underlying4 _), (trodAll_cons_mk (shut_string Tryz.underlying9 y0) trodAll_mk0), rfl, bel.frame _, fun h => by cases h⟩
theorem over (PU : P.driftnetlaw16_LogfmtParses.Pure) : Rows.LogfmtParsesSaid :=
  OpenClaim.holds_of_wide 3 Tryz.f3 rfl rfl rfl rfl rfl rfl rfl ⟨rfl, rfl, rfl, rfl, rfl⟩ rfl rfl rfl rfl rfl (by kernel_rfl) Tryz.func3 (by kernel_rfl)
    (of_decide_eq_true (by kernel_rfl)) (by unfold Func.isWrapper; first | (rw [if_pos (by decide +kernel)]; kernel_rfl) | (rw [if_neg (by decide +kernel)]; exact ⟨rfl, rfl⟩))
    (fun os started H enc _ => lifted PU os started H enc)
theorem card_of (PU : P.driftnetlaw16_LogfmtParses.Pure) : Rows.LogfmtParsesCardSaid :=
  Claim7.holds_tied_plain_at .later [] Rows.logfmtParsesCard.laidKinds true Rows.logfmtParsesCard.stood.harness Rows.logfmtParsesCard.stood.looks (over PU) (fun _ h => by cases h) (by kernel_rfl) (fun _ h => by cases h) logfmtParses_row_tie rfl ⟨rfl, rfl⟩ (by kernel_rfl) rfl
    (fun f fn hf hfn => by
      obtain rfl : f = 3 := Option.some.inj ((show Tryz.prog.funcNamed "driftnet/driftnetlaw16.LogfmtParses" = some 3 by kernel_rfl).symm.trans hf) |>.symm
      obtain rfl : fn = Tryz.f3 := (Option.some.inj (Tryz.func3.symm.trans hfn)).symm
      exact ⟨by kernel_rfl, fun j t ht => by
        rw [Tryz.params3] at ht
        have hm : t ∈ [9] := by simpa using Array.mem_of_getElem? ht
        have hall : ([9].all fun u => !Tryz.prog.wantsStandIn u) = true := by kernel_rfl
        exact (show Tryz.prog.wantsStandIn t = false by simpa using List.all_eq_true.1 hall t hm)⟩)
    (by kernel_rfl)
end Go.Proofs.YtnmofpefofkoeaaGreatDoor.logfmtParses
namespace Go.Proofs.YtnmofpefofkoeaaGreatDoor
theorem logfmtParses_card : Rows.LogfmtParsesCardSaid := logfmtParses.card_of logfmtParses_pure
#print axioms logfmtParses_card
end Go.Proofs.YtnmofpefofkoeaaGreatDoor
