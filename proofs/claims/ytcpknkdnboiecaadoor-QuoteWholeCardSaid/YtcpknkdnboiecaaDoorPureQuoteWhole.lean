/- QuoteWhole: the runes' bytes, one behind the other, are the text; each rune is told again: its pure statement, and its tied card. -/
import Derived.Test.YtcpknkdnboiecaaDoorLawQuoteWhole
import Derived.Test.YtcpknkdnboiecaaDoorDecEnc
import Derived.Test.YtcpknkdnboiecaaDoorWorks
set_option linter.unusedVariables false
namespace Go.Proofs.YtcpknkdnboiecaaDoor
open Go Go.RowKit Go.Proofs.YtcpknkdnboiecaaDoorW.PrintWords Go.Proofs.YtcpknkdnboiecaaDoorW.PrintMore Go.Lib

theorem kind_inv {r : Int} {l : List UInt8} (h : Kind r l) : (∃ c : UInt8, c.toNat < 128 ∧ r = c.toNat ∧ l = [c]) ∨ (128 ≤ r ∧ r ≤ 1114111 ∧ l = encodeRune r ∧ 2 ≤ l.length ∧ l.length ≤ 4) ∨ (∃ c : UInt8, 128 ≤ c.toNat ∧ r = 65533 ∧ l = [c]) := by
  cases h with
  | ascii c h => exact .inl ⟨c, h, rfl, rfl⟩
  | multi r l h1 h2 hs he hb hl => exact .inr (.inl ⟨by omega, by omega, he, hl.1, hl.2⟩)
  | bad c h => exact .inr (.inr ⟨c, h, rfl, rfl⟩)

theorem toList_eq_data (s : ByteArray) : s.toList = s.data.toList := ByteArray.toList_eq s
theorem toList_ne {s : ByteArray} (h : s.size ≠ 0) : ¬ s.toList = ([] : List UInt8) := fun e => by
  rw [toList_eq_data] at e
  have := ba_len s
  rw [e] at this
  exact h this.symm
theorem toList_nil' {s : ByteArray} (h : s.size = 0) : s.toList = ([] : List UInt8) := by
  rw [toList_eq_data]
  exact List.eq_nil_of_length_eq_zero (by rw [ba_len, h])
theorem decode_f (s : ByteArray) (h : s.size ≠ 0) : P.quote_Decode.f s = some (((decodeGo s).1 : Int), ((decodeGo s).2 : Int)) := by
  unfold P.quote_Decode.f P.utf8_DecodeRuneInString.f
  rw [if_neg (toList_ne h)]
  rfl
theorem encode_f (r : Int) (h0 : -2147483648 ≤ r) (h1 : r ≤ 2147483647) : P.quote_Encode.f r = some ⟨(encodeRune r).toArray⟩ := by
  unfold P.quote_Encode.f
  rw [if_pos ⟨h0, h1⟩]
theorem size_append (a b : ByteArray) : (a ++ b).size = a.size + b.size := by simp
theorem data_append (a b : ByteArray) : (a ++ b).data.toList = a.data.toList ++ b.data.toList := by rw [ByteArray.data_append, Array.toList_append]
theorem bt_head (s : ByteArray) (c : UInt8) (t : List UInt8) (h : s.data.toList = c :: t) : bt s 0 = c.toNat := by
  have : s = ⟨(c :: t).toArray⟩ := ba_ext h
  rw [this]; exact bt_zero c t

/-- The second loop: each of a text's runes is written as it stood. -/
theorem whole_back (s : ByteArray) (hs : s.size ≤ 1000) : ∀ (m k : Nat) (out left : ByteArray) (n : Int), left.size ≤ m → 2 * m + 1 ≤ k → out.data.toList ++ left.data.toList = s.data.toList → 0 ≤ n → n + (piecesOf left).length = (piecesOf s).length →
    P.driftnetlaw04_QuoteWhole.l1 k s out n left = some true := by
  intro m
  induction m with
  | zero =>
    intro k out left n hm hk ho hn0 hn
    obtain ⟨k, rfl⟩ : ∃ k', k = k' + 1 := ⟨k - 1, by omega⟩
    have hl : left.data.toList = [] := List.eq_nil_of_length_eq_zero (by rw [ba_len]; omega)
    rw [hl, List.append_nil] at ho
    rw [piecesOf_nil left (by omega)] at hn
    rw [P.driftnetlaw04_QuoteWhole.l1, if_pos (toList_nil' (by omega)), if_pos (by rw [toList_eq_data, toList_eq_data, ho])]
    unfold P.quote_Runes.f
    rw [if_pos (by omega), Option.bind_some, List.length_map]
    simp only [List.length_nil] at hn
    congr 1
    exact beq_iff_eq.2 (by omega)
  | succ m ih =>
    intro k out left n hm hk ho hn0 hn
    obtain ⟨k, rfl⟩ : ∃ k', k = k' + 2 := ⟨k - 2, by omega⟩
    by_cases h0 : left.size = 0
    · have hl : left.data.toList = [] := List.eq_nil_of_length_eq_zero (by rw [ba_len]; omega)
      rw [hl, List.append_nil] at ho
      rw [piecesOf_nil left (by omega)] at hn
      rw [P.driftnetlaw04_QuoteWhole.l1, if_pos (toList_nil' (by omega)), if_pos (by rw [toList_eq_data, toList_eq_data, ho])]
      unfold P.quote_Runes.f
      rw [if_pos (by omega), Option.bind_some, List.length_map]
      simp only [List.length_nil] at hn
      congr 1
      exact beq_iff_eq.2 (by omega)
    · have hb := decodeGo_bounds left h0
      have hk2 := kinds left ((decodeGo left).1, left.extract 0 (decodeGo left).2) (by rw [piecesOf_cons left h0]; simp)
      have hpc := piecesOf_cons left h0
      have hpl := piecesOf_length s
      have hlen : (left.extract 0 (decodeGo left).2).data.toList.length = (decodeGo left).2 := by rw [ba_len, ByteArray.size_extract]; omega
      have hsplit : (left.extract 0 (decodeGo left).2).data.toList ++ (left.extract (decodeGo left).2 left.size).data.toList = left.data.toList := by
        rw [ba_extract, ba_extract, List.drop_zero, List.take_of_length_le (show left.data.toList.length ≤ left.size by rw [ba_len]; exact Nat.le_refl _), List.take_append_drop]
      have hol : out.size + left.size = s.size := by
        have := congrArg List.length ho
        rw [List.length_append, ba_len, ba_len, ba_len] at this
        exact this
      have hxs : (left.extract (decodeGo left).2 left.size).size = left.size - (decodeGo left).2 := by rw [ByteArray.size_extract]; omega
      have hw : wrap64 (n + 1) = n + 1 := by
        have := congrArg List.length hpc
        rw [List.length_cons] at this
        unfold wrap64; omega
      rw [hpc, List.length_cons] at hn
      rw [P.driftnetlaw04_QuoteWhole.l1, if_neg (toList_ne h0), decode_f left h0, Option.bind_some]
      simp only
      generalize (decodeGo left).1 = r at *
      generalize (decodeGo left).2 = w at *
      rw [if_neg (by omega), if_neg (by omega)]
      have next : ∀ b : ByteArray, b.data.toList = (left.extract 0 w).data.toList → P.driftnetlaw04_QuoteWhole.l1 k s (out ++ b) (wrap64 (n + 1)) (left.extract ((w : Int)).toNat left.size) = some true := by
        intro b hbd
        rw [hw, Int.toNat_natCast]
        refine ih k (out ++ b) (left.extract w left.size) (n + 1) (by omega) (by omega) ?_ (by omega) (by omega)
        rw [data_append, hbd, List.append_assoc, hsplit, ho]
      have hbsz : ∀ b : ByteArray, b.data.toList = (left.extract 0 w).data.toList → b.size = w := fun b hbd => by rw [← ba_len, hbd, hlen]
      rcases kind_inv hk2 with ⟨c, hc, er, el⟩ | ⟨h1, h2, el, hl2, hl4⟩ | ⟨c, hc, er, el⟩
      · simp only at er el
        rw [el] at hlen
        obtain rfl : w = 1 := by simpa using hlen.symm
        rw [el] at hsplit
        have hbt := bt_head left c _ hsplit.symm
        rw [if_pos (by omega), if_pos (by omega), if_neg (by omega)]
        rw [P.driftnetlaw04_QuoteWhole.j3, if_neg (by decide), if_neg (by omega), if_pos (by omega), if_pos (by omega), encode_f _ (by omega) (by omega), Option.bind_some]
        have hbd : (⟨(encodeRune (r : Int)).toArray⟩ : ByteArray).data.toList = (left.extract 0 1).data.toList := by
          rw [el]
          show encodeRune (r : Int) = [c]
          have : r = c.toNat := by omega
          rw [this, enc1 c.toNat hc]
          simp
        have hz := hbsz _ hbd
        rw [if_pos (by omega), if_pos (by omega), if_pos (by omega)]
        exact next _ hbd
      · simp only at el h1 h2
        rw [hlen] at hl2 hl4
        rw [if_neg (by omega)]
        rw [P.driftnetlaw04_QuoteWhole.j3, if_neg (by decide), if_pos (by omega), encode_f _ (by omega) (by omega), Option.bind_some]
        have hbd : (⟨(encodeRune (r : Int)).toArray⟩ : ByteArray).data.toList = (left.extract 0 w).data.toList := el.symm
        have hz := hbsz _ hbd
        rw [if_pos (by omega), if_pos (by omega), if_pos (by omega)]
        exact next _ hbd
      · simp only at er el
        rw [el] at hlen
        obtain rfl : w = 1 := by simpa using hlen.symm
        rw [el] at hsplit
        have hbt := bt_head left c _ hsplit.symm
        have hne : ((r : Int) != 65533) = false := by rw [bne_eq_false_iff_eq]; exact er
        rw [if_pos (by omega), if_pos (by omega), if_pos (by omega), hne]
        rw [P.driftnetlaw04_QuoteWhole.j3, if_neg (by decide), if_neg (by omega), if_pos (by omega), if_neg (by omega), if_pos (by omega), if_pos (by omega)]
        have hz := hbsz _ (rfl : (left.extract 0 1).data.toList = _)
        rw [if_pos (by omega), if_pos (by omega), if_pos (by omega)]
        exact next _ rfl

theorem enc_pieces : ∀ (l : List Int), (piecesOf ⟨(l.flatMap fun r => encodeRune r).toArray⟩).length = l.length
  | [] => by rw [piecesOf_nil _ rfl]; rfl
  | r :: l => by
    rw [List.flatMap_cons, enc_vr r, pieces_enc _ (vr_valid r), List.length_cons, List.length_cons, enc_pieces l]

theorem enc_bounds (r : Int) : 1 ≤ (encodeRune r).length ∧ (encodeRune r).length ≤ 4 := by
  have := runeCells_le r
  rwa [runeCells_length] at this
theorem flat_len : ∀ (l : List Int), (l.flatMap fun r => encodeRune r).length ≤ 4 * l.length
  | [] => by simp
  | r :: l => by
    have h1 := enc_bounds r
    have h2 := flat_len l
    rw [List.flatMap_cons, List.length_append, List.length_cons]; omega

set_option maxHeartbeats 4000000 in
/-- The first loop: each rune's bytes are decoded as that rune, or the substitute. -/
theorem whole_front (l : List Int) (hl : ∀ x ∈ l, (Lit.int .i32 x).wf = true) (a1 : ByteArray) (h1 : a1.size ≤ 140737488351232) (hml : l.length ≤ maxLen) : ∀ (d i k : Nat) (x5 : ByteArray), min l.length 300 - i = d → i ≤ min l.length 300 → 2 * d + 2005 ≤ k → x5.data.toList = (l.take i).flatMap (fun r => encodeRune r) →
    P.driftnetlaw04_QuoteWhole.l0 k l a1 x5 (i : Int) = some true := by
  intro d
  induction d with
  | zero =>
    intro i k x5 hd hi hk hx
    obtain ⟨k, rfl⟩ : ∃ k', k = k' + 2 := ⟨k - 2, by omega⟩
    have hfin : P.driftnetlaw04_QuoteWhole.j1 (k + 1) l a1 x5 (i : Int) false = some true := by
      rw [P.driftnetlaw04_QuoteWhole.j1, if_neg (by decide)]
      have hx5 : x5 = ⟨((l.take i).flatMap fun r => encodeRune r).toArray⟩ := ba_ext hx
      have hsz := flat_len (l.take i)
      rw [List.length_take] at hsz
      have hx5s : x5.size ≤ 1200 := by rw [← ba_len, hx]; omega
      unfold P.quote_Runes.f
      rw [if_pos (by omega), Option.bind_some, List.length_map]
      have hn : (piecesOf x5).length = i := by rw [hx5, enc_pieces, List.length_take]; omega
      rw [hn]
      have hmn : mn (l.length : Int) 300 = (min l.length 300 : Nat) := by unfold mn; split <;> omega
      rw [hmn, if_pos (by omega)]
      have m1 : 0 ≤ mn (a1.size : Int) 1000 ∧ mn (a1.size : Int) 1000 ≤ (a1.size : Int) ∧ mn (a1.size : Int) 1000 ≤ 1000 := by unfold mn; split <;> omega
      rw [if_pos m1.1, if_pos m1.2.1]
      have hss : (a1.extract 0 (mn (a1.size : Int) 1000).toNat).size ≤ 1000 := by rw [ByteArray.size_extract]; omega
      exact whole_back _ hss 1000 k _ _ 0 hss (by omega) rfl (by omega) (by omega)
    rw [P.driftnetlaw04_QuoteWhole.l0]
    split
    · rw [show decide ((i : Int) < 300) = false from decide_eq_false (by omega)]
      exact hfin
    · exact hfin
  | succ d ih =>
    intro i k x5 hd hi hk hx
    obtain ⟨k, rfl⟩ : ∃ k', k = k' + 2 := ⟨k - 2, by omega⟩
    have hil : i < l.length := by omega
    rw [P.driftnetlaw04_QuoteWhole.l0, if_pos (by omega), show decide ((i : Int) < 300) = true from decide_eq_true (by omega)]
    rw [P.driftnetlaw04_QuoteWhole.j1, if_pos rfl, if_pos (by omega), if_pos (by omega)]
    have hrd : rd l (i : Int) = l[i] := by unfold rd; simp [List.getD, List.getElem?_eq_getElem hil]
    rw [hrd]
    have hwf := hl l[i] (List.getElem_mem hil)
    have hr : -2147483648 ≤ l[i] ∧ l[i] ≤ 2147483647 := by
      simp [Lit.wf, IntKind.min, IntKind.max, IntKind.signed, IntKind.bits] at hwf
      omega
    have hsz := flat_len (l.take i)
    rw [List.length_take] at hsz
    have hx5s : x5.size ≤ 1200 := by rw [← ba_len, hx]; omega
    have htk : l.take (i + 1) = l.take i ++ [l[i]] := List.take_succ_eq_append_getElem hil
    have f1 : min l.length 300 - (i + 1) = d := by omega
    have f2 : i + 1 ≤ min l.length 300 := by omega
    have f3 : 2 * d + 2005 ≤ k := by omega
    have hw : wrap64 ((i : Int) + 1) = ((i + 1 : Nat) : Int) := by unfold wrap64; omega
    have hg : ∀ b : ByteArray, b.data.toList = encodeRune l[i] → P.driftnetlaw04_QuoteWhole.l0 k l a1 (x5 ++ b) (wrap64 ((i : Int) + 1)) = some true := fun b hb => by
      rw [hw]
      refine ih (i + 1) k _ f1 f2 f3 ?_
      rw [data_append, hx, htk, List.flatMap_append, List.flatMap_cons, List.flatMap_nil, List.append_nil, hb]
    clear ih f1 f2 f3 hw htk hx hl hml h1 hrd hwf hk hd hsz
    generalize l[i] = r at hr hg ⊢
    have heb := enc_bounds r
    have hes : (⟨(encodeRune r).toArray⟩ : ByteArray).size = (encodeRune r).length := rfl
    have hde : decodeGo ⟨(encodeRune r).toArray⟩ = (vr r, (encodeRune r).length) := by
      have hne : encodeRune r ≠ [] := fun e => by rw [e] at heb; simp at heb
      rw [decodeGo_list _ hne]
      have := dec_enc (vr r) (vr_valid r) []
      rw [List.append_nil, ← enc_vr r] at this
      exact this
    rw [encode_f r hr.1 hr.2, Option.bind_some, decode_f _ (by omega), Option.bind_some, hde]
    simp only
    rw [if_pos (by rw [hes]), if_neg (by omega), if_neg (by omega)]
    have hnext : (if x5.size + (⟨(encodeRune r).toArray⟩ : ByteArray).size ≤ 9223372036854775807 then P.driftnetlaw04_QuoteWhole.l0 k l a1 (x5 ++ ⟨(encodeRune r).toArray⟩) (wrap64 ((i : Int) + 1)) else none) = some true := by
      rw [if_pos (by rw [hes]; omega)]
      exact hg _ rfl
    rw [hnext]
    unfold vr
    by_cases hv : 0 ≤ r ∧ r ≤ 1114111 ∧ (r < 55296 ∨ 57343 < r)
    · rw [if_pos hv, if_pos (by omega)]
    · rw [if_neg hv]
      split
      · rfl
      · rw [if_pos (by omega)]
        by_cases c1 : r ≥ 0
        · rw [if_pos c1]
          by_cases c2 : r ≤ 1114111
          · rw [if_pos c2, if_neg (by omega), if_neg (by omega)]
          · rw [if_neg c2]
        · rw [if_neg c1]

theorem quoteWhole_pure : P.driftnetlaw04_QuoteWhole.Pure := by
  intro l a1 hml _ hl h1
  refine ⟨2 * min l.length 300 + 2005, ?_⟩
  unfold P.driftnetlaw04_QuoteWhole.f
  rw [works_true, Option.bind_some, if_pos rfl]
  exact whole_front l hl a1 h1 hml (min l.length 300) 0 _ _ (by omega) (by omega) (Nat.le_refl _) rfl

theorem quoteWhole_card : Rows.QuoteWholeCardSaid := quoteWhole.card_of quoteWhole_pure
#print axioms quoteWhole_card
end Go.Proofs.YtcpknkdnboiecaaDoor
