/- QuoteBack: what was put in quotes is read as it was; it is one line, of runes alone: its pure statement, and its tied card. -/
import Derived.Test.YtcpknkdnboiecaaDoorLawQuoteBack
import Derived.Test.YtcpknkdnboiecaaDoorDecEnc
import Derived.Test.YtcpknkdnboiecaaDoorWorks
set_option linter.unusedVariables false
namespace Go.Proofs.YtcpknkdnboiecaaDoor
open Go Go.RowKit Go.Proofs.YtcpknkdnboiecaaDoorW.PrintWords Go.Proofs.YtcpknkdnboiecaaDoorW.PrintMore Go.Lib

/-- A rune that may stand in a line. -/
def good (v : Nat) : Prop := 32 ≤ v ∧ v ≠ 127 ∧ validR v
def encs (vs : List Nat) : List UInt8 := vs.flatMap fun (v : Nat) => encodeRune (v : Int)
theorem encs_append (a b : List Nat) : encs (a ++ b) = encs a ++ encs b := by unfold encs; rw [List.flatMap_append]
theorem encs_cons (v : Nat) (b : List Nat) : encs (v :: b) = encodeRune (v : Int) ++ encs b := by unfold encs; rw [List.flatMap_cons]
theorem encs_ascii : ∀ (l : List UInt8), (∀ c ∈ l, c.toNat < 128) → l = encs (l.map fun c => c.toNat)
  | [], _ => rfl
  | c :: l, h => by
    have hc := h c (by simp)
    rw [List.map_cons, encs_cons, enc1 c.toNat hc, ← encs_ascii l (fun x hx => h x (by simp [hx]))]
    simp
theorem good_ascii (c : UInt8) (h1 : 32 ≤ c.toNat) (h2 : c.toNat < 127) : good c.toNat := ⟨h1, by omega, .inl (by omega)⟩
theorem ascii_good (l : List UInt8) (h : ∀ c ∈ l, 32 ≤ c.toNat ∧ c.toNat < 127) : ∃ vs, (∀ v ∈ vs, good v) ∧ l = encs vs := by
  refine ⟨l.map fun c => c.toNat, fun v hv => ?_, encs_ascii l fun c hc => by have := h c hc; omega⟩
  obtain ⟨c, hc, rfl⟩ := List.mem_map.1 hv
  exact good_ascii c (h c hc).1 (h c hc).2
theorem hexByte_range : ∀ k : Fin 16, 32 ≤ (hexByte k.val).toNat ∧ (hexByte k.val).toNat < 127 := by decide +kernel

theorem qp_good {r : Int} {l : List UInt8} (h : Kind r l) : ∃ vs, (∀ v ∈ vs, good v) ∧ qp r l = encs vs := by
  have hexs : ∀ n : Nat, n < 256 → ∃ vs, (∀ v ∈ vs, good v) ∧ [92, 120, hexByte (n / 16), hexByte (n % 16)] = encs vs := fun n hn => by
    have a := hexByte_range ⟨n / 16, by omega⟩
    have b := hexByte_range ⟨n % 16, by omega⟩
    refine ascii_good _ fun c hc => ?_
    simp only [List.mem_cons, List.not_mem_nil, or_false] at hc
    rcases hc with rfl | rfl | rfl | rfl
    · decide
    · decide
    · exact a
    · exact b
  have two : ∀ c : UInt8, 32 ≤ c.toNat → c.toNat < 127 → ∃ vs, (∀ v ∈ vs, good v) ∧ [92, c] = encs vs := fun c h1 h2 => ascii_good _ fun x hx => by
    simp only [List.mem_cons, List.not_mem_nil, or_false] at hx
    rcases hx with rfl | rfl
    · decide
    · exact ⟨h1, h2⟩
  cases h with
  | ascii c hc =>
    unfold qp
    by_cases h34 : c.toNat = 34
    · rw [if_pos (by omega)]; exact two c (by omega) (by omega)
    · rw [if_neg (by omega)]
      by_cases h92 : c.toNat = 92
      · rw [if_pos (by omega)]; exact two c (by omega) (by omega)
      · rw [if_neg (by omega)]
        by_cases h10 : c.toNat = 10
        · rw [if_pos (by omega)]; exact two 110 (by decide) (by decide)
        · rw [if_neg (by omega)]
          by_cases h13 : c.toNat = 13
          · rw [if_pos (by omega)]; exact two 114 (by decide) (by decide)
          · rw [if_neg (by omega)]
            by_cases h9 : c.toNat = 9
            · rw [if_pos (by omega)]; exact two 116 (by decide) (by decide)
            · rw [if_neg (by omega)]
              by_cases hh : c.toNat < 32 ∨ c.toNat = 127
              · rw [if_pos (by omega)]; exact hexs c.toNat (by omega)
              · rw [if_neg (by omega)]
                exact ascii_good [c] fun x hx => by
                  simp only [List.mem_cons, List.not_mem_nil, or_false] at hx
                  subst hx; omega
  | multi r l h1 h2 hs he hb hl =>
    unfold qp
    rw [if_neg (by omega), if_neg (by omega), if_neg (by omega), if_neg (by omega), if_neg (by omega), if_neg (by omega)]
    refine ⟨[r], fun v hv => ?_, ?_⟩
    · simp only [List.mem_cons, List.not_mem_nil, or_false] at hv
      subst hv
      exact ⟨by omega, by omega, by unfold validR; omega⟩
    · rw [encs_cons, he]; simp [encs]
  | bad c hc =>
    unfold qp
    rw [if_neg (by decide), if_neg (by decide), if_neg (by decide), if_neg (by decide), if_neg (by decide), if_pos (by right; right; exact ⟨rfl, rfl⟩)]
    exact hexs c.toNat c.toNat_lt

theorem qp_len {r : Int} {l : List UInt8} (h : Kind r l) : l.length ≤ (qp r l).length ∧ (qp r l).length ≤ 4 * l.length := by
  have h1 : 1 ≤ l.length := by
    cases h with
    | ascii c h => exact Nat.le_refl 1
    | multi r l a b c d e f => omega
    | bad c h => exact Nat.le_refl 1
  have hm : l.length = 1 ∨ 128 ≤ r := by
    cases h with
    | ascii c h => exact .inl rfl
    | multi r l a b c d e f => exact .inr (by omega)
    | bad c h => exact .inl rfl
  unfold qp
  repeat' split
  all_goals (try simp only [List.length_cons, List.length_nil])
  all_goals omega

theorem flat_len2 : ∀ (ps : List (Int × ByteArray)), (∀ x ∈ ps, Kind x.1 x.2.data.toList) → (ps.flatMap fun x => x.2.data.toList).length ≤ (ps.flatMap quotePiece).length ∧ (ps.flatMap quotePiece).length ≤ 4 * (ps.flatMap fun x => x.2.data.toList).length
  | [], _ => by simp
  | x :: ps, h => by
    have a := qp_len (h x (by simp))
    have b := flat_len2 ps fun y hy => h y (by simp [hy])
    rw [List.flatMap_cons, List.flatMap_cons, List.length_append, List.length_append, quotePiece_qp]
    omega
theorem body_good : ∀ (ps : List (Int × ByteArray)), (∀ x ∈ ps, Kind x.1 x.2.data.toList) → ∃ vs, (∀ v ∈ vs, good v) ∧ ps.flatMap quotePiece = encs vs
  | [], _ => ⟨[], fun _ h => (by cases h), rfl⟩
  | x :: ps, h => by
    obtain ⟨a, ha, ea⟩ := qp_good (h x (by simp))
    obtain ⟨b, hb, eb⟩ := body_good ps fun y hy => h y (by simp [hy])
    refine ⟨a ++ b, fun v hv => (List.mem_append.1 hv).elim (ha v) (hb v), ?_⟩
    rw [List.flatMap_cons, quotePiece_qp, ea, eb, encs_append]
theorem quote_good (s : ByteArray) : ∃ vs, (∀ v ∈ vs, good v) ∧ quoteBytes s = encs vs := by
  obtain ⟨vs, hv, e⟩ := body_good (piecesOf s) (kinds s)
  refine ⟨34 :: (vs ++ [34]), fun v h => ?_, ?_⟩
  · simp only [List.mem_cons, List.mem_append, List.not_mem_nil, or_false] at h
    rcases h with rfl | h | rfl
    · exact ⟨by decide, by decide, .inl (by decide)⟩
    · exact hv v h
    · exact ⟨by decide, by decide, .inl (by decide)⟩
  · unfold quoteBytes
    rw [e, encs_cons, encs_append]
    rfl

theorem tl_data (s : ByteArray) : s.toList = s.data.toList := ByteArray.toList_eq s
theorem is_f (t s : ByteArray) (ht : t.size ≤ 17592186044416) : P.driftnetlaw04_is.f t s = some (decide (unquoteP t = some s.data.toList)) := by
  unfold P.driftnetlaw04_is.f P.quote_Unquote.f
  rw [if_pos ht, Option.bind_some]
  cases h : unquoteP t with
  | none => rfl
  | some l =>
    show (if (0 : Int) = 0 then some ((⟨l.toArray⟩ : ByteArray).toList == s.toList) else some false) = _
    rw [if_pos rfl, tl_data, tl_data]
    congr 1
    show (l == s.data.toList) = _
    rw [Bool.eq_iff_iff, beq_iff_eq, decide_eq_true_iff, Option.some.injEq]

theorem unq_false : ∀ (l acc : List UInt8), unq false l acc = if (96 : UInt8) ∈ l then none else some (acc ++ l)
  | [], acc => by rw [unq_nil]; simp
  | c :: l, acc => by
    rw [unq_cons]
    by_cases h : c = 96
    · subst h
      rw [if_pos (by decide), if_pos (by simp)]
    · have hn : c.toNat ≠ 96 := fun e => h (UInt8.toNat_inj.1 e)
      rw [if_neg (by rintro (h1 | ⟨h1, _⟩); exact hn h1; cases h1), if_neg (by rintro ⟨h1, _⟩; cases h1), unq_false l]
      simp [Ne.symm h]

theorem back_loop (s : ByteArray) (res : Bool) : ∀ (vs : List Nat) (k : Nat) (q : ByteArray), (∀ v ∈ vs, good v) → q.data.toList = encs vs → (∀ q2 : ByteArray, q2.size = 0 → P.driftnetlaw04_QuoteBack.l0 1 s q2 = some res) →
    P.driftnetlaw04_QuoteBack.l0 (k + 1 + vs.length) s q = some res
  | [], k, q, _, hq, he => by
    have hq0 : q.size = 0 := by rw [← ba_len, hq]; rfl
    have h1 := he q hq0
    have hn : q.toList = ([] : List UInt8) := by rw [tl_data]; exact List.eq_nil_of_length_eq_zero (by rw [ba_len, hq0])
    rw [List.length_nil, Nat.add_zero, P.driftnetlaw04_QuoteBack.l0, if_pos hn]
    rw [P.driftnetlaw04_QuoteBack.l0, if_pos hn] at h1
    exact h1
  | v :: vs, k, q, hv, hq, he => by
    obtain ⟨g1, g2, g3⟩ := hv v (by simp)
    rw [encs_cons] at hq
    have hb := runeCells_le (v : Int)
    rw [runeCells_length] at hb
    have hd := dec_enc v g3 (encs vs)
    have hl1 : v = 65533 → (encodeRune (v : Int)).length ≠ 1 := fun e => by subst e; decide
    have hvr : v ≤ 1114111 := by unfold validR at g3; omega
    generalize encodeRune (v : Int) = E at *
    have hne : q.size ≠ 0 := by
      have := congrArg List.length hq
      rw [ba_len, List.length_append] at this; omega
    have hqe : q = ⟨(E ++ encs vs).toArray⟩ := ba_ext hq
    have hdq : decodeGo q = (v, E.length) := by
      rw [hqe, decodeGo_list _ (fun e => by rw [(List.append_eq_nil_iff.1 e).1] at hb; simp at hb)]; exact hd
    have hsz : E.length ≤ q.size := by
      have := congrArg List.length hq
      rw [ba_len, List.length_append] at this; omega
    have hnext := back_loop s res vs k (q.extract E.length q.size) (fun x hx => hv x (by simp [hx])) (by
      rw [ba_extract, List.take_of_length_le (by rw [ba_len]; exact Nat.le_refl _), hq, List.drop_left]) he
    rw [List.length_cons, show k + 1 + (vs.length + 1) = (k + 1 + vs.length) + 1 by omega, P.driftnetlaw04_QuoteBack.l0]
    rw [if_neg (fun e => by rw [tl_data] at e; rw [e] at hq; have := congrArg List.length hq; rw [List.length_append] at this; simp at this; omega)]
    have hdf : P.quote_Decode.f q = some ((v : Int), (E.length : Int)) := by
      unfold P.quote_Decode.f P.utf8_DecodeRuneInString.f
      rw [if_neg (fun e => by rw [tl_data] at e; rw [e] at hq; have := congrArg List.length hq; rw [List.length_append] at this; simp at this; omega), hdq]
      rfl
    rw [hdf, Option.bind_some]
    simp only
    rw [if_neg (by omega), if_neg (by omega), if_neg (by omega)]
    have hgo : (if (0 : Int) ≤ (E.length : Int) then (if (E.length : Int) ≤ (q.size : Int) then P.driftnetlaw04_QuoteBack.l0 (k + 1 + vs.length) s (q.extract ((E.length : Int)).toNat q.size) else none) else none) = some res := by
      rw [if_pos (by omega), if_pos (by omega), Int.toNat_natCast]
      exact hnext
    rw [hgo]
    by_cases h3 : v = 65533
    · have := hl1 h3
      rw [if_pos (by omega), if_neg (by omega)]
    · rw [if_neg (by omega)]

theorem indexByte_mem : ∀ (l : List UInt8) (c : UInt8), (0 ≤ indexByte l c) ↔ c ∈ l
  | [], c => by simp [indexByte]
  | b :: l, c => by
    have ih := indexByte_mem l c
    have hg := indexByte_ge l c
    unfold indexByte
    by_cases h : b = c
    · subst h
      simp
    · have hb : (b == c) = false := beq_eq_false_iff_ne.2 h
      rw [hb, List.mem_cons]
      simp only [Bool.false_eq_true, if_false, beq_iff_eq]
      split
      · constructor
        · intro h2; omega
        · rintro (h2 | h2)
          · exact absurd h2.symm h
          · have := ih.2 h2; omega
      · constructor
        · intro _; exact Or.inr (ih.1 (by omega))
        · intro _; omega

theorem quoteBack_pure : P.driftnetlaw04_QuoteBack.Pure := by
  intro a0 h0
  have m0 : 0 ≤ mn (a0.size : Int) 2000 ∧ mn (a0.size : Int) 2000 ≤ (a0.size : Int) ∧ mn (a0.size : Int) 2000 ≤ 2000 := by unfold mn; split <;> omega
  have s0 : (a0.extract 0 (mn (a0.size : Int) 2000).toNat).size ≤ 2000 := by rw [ByteArray.size_extract]; omega
  obtain ⟨vs, hv, hq⟩ := quote_good (a0.extract 0 (mn (a0.size : Int) 2000).toNat)
  refine ⟨1 + 1 + vs.length, ?_⟩
  unfold P.driftnetlaw04_QuoteBack.f
  rw [works_true, Option.bind_some, if_pos rfl, if_pos m0.1, if_pos m0.2.1]
  generalize a0.extract 0 (mn (a0.size : Int) 2000).toNat = s at s0 hq
  have hl := flat_len2 (piecesOf s) (kinds s)
  rw [flat, ba_len] at hl
  have hqs : (⟨(quoteBytes s).toArray⟩ : ByteArray).size = ((piecesOf s).flatMap quotePiece).length + 2 := by show (quoteBytes s).length = _; unfold quoteBytes; simp
  have hu := unquote_quote s
  have hqd : (⟨(quoteBytes s).toArray⟩ : ByteArray).data.toList = encs vs := hq
  unfold P.quote_Quote.f
  rw [if_pos (by omega), Option.bind_some]
  generalize (⟨(quoteBytes s).toArray⟩ : ByteArray) = q at hqs hu hqd
  rw [is_f q s (by omega), hu, Option.bind_some, decide_eq_true rfl, if_pos rfl]
  have w1 : wrap64 ((s.size : Int) + 2) = (s.size : Int) + 2 := by unfold wrap64; omega
  have w2 : wrap64 (wrap64 (4 * (s.size : Int)) + 2) = 4 * (s.size : Int) + 2 := by unfold wrap64; omega
  rw [w1, w2, if_neg (by omega), show decide ((q.size : Int) > 4 * (s.size : Int) + 2) = false from decide_eq_false (by omega)]
  rw [show 1 + 1 + vs.length = (0 + 1 + vs.length) + 1 by omega, P.driftnetlaw04_QuoteBack.j0, if_neg (by decide)]
  refine back_loop s true vs 0 q hv hqd fun q2 h2 => ?_
  rw [P.driftnetlaw04_QuoteBack.l0, if_pos (by rw [tl_data]; exact List.eq_nil_of_length_eq_zero (by rw [ba_len, h2]))]
  have hc : P.strings_Contains.f s ⟨#[96]⟩ = some (decide (0 ≤ indexByte s.data.toList 96)) := rfl
  have e1 : ((⟨#[96]⟩ : ByteArray) ++ s).size = 1 + s.size := by rw [ByteArray.size_append]; rfl
  have e2 : ((⟨#[96]⟩ : ByteArray) ++ s ++ ⟨#[96]⟩).size = 1 + s.size + 1 := by rw [ByteArray.size_append, e1]; rfl
  have ed : ((⟨#[96]⟩ : ByteArray) ++ s ++ ⟨#[96]⟩).data.toList = 96 :: (s.data.toList ++ [96]) := by
    rw [ByteArray.data_append, Array.toList_append, ByteArray.data_append, Array.toList_append]; rfl
  have eu : unquoteP ((⟨#[96]⟩ : ByteArray) ++ s ++ ⟨#[96]⟩) = if (96 : UInt8) ∈ s.data.toList then none else some s.data.toList := by
    have : (⟨#[96]⟩ : ByteArray) ++ s ++ ⟨#[96]⟩ = ⟨(96 :: (s.data.toList ++ [96])).toArray⟩ := ba_ext ed
    rw [this, unquoteP_mk, if_pos rfl, if_neg (by decide), if_pos rfl, unq_false]
    rfl
  rw [hc, Option.bind_some, if_pos (by omega), if_pos (by omega), is_f _ s (by omega), Option.bind_some, eu]
  congr 1
  have hi : (0 ≤ indexByte s.data.toList 96) ↔ (96 : UInt8) ∈ s.data.toList := indexByte_mem _ _
  by_cases hm : (96 : UInt8) ∈ s.data.toList
  · rw [if_pos hm, decide_eq_true (hi.2 hm)]; rfl
  · rw [if_neg hm, decide_eq_false (fun h => hm (hi.1 h)), decide_eq_true rfl]; rfl

theorem quoteBack_card : Rows.QuoteBackCardSaid := quoteBack.card_of quoteBack_pure
#print axioms quoteBack_card
end Go.Proofs.YtcpknkdnboiecaaDoor
