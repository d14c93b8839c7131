/- QuoteTwo: two texts in quotes, one behind the other, are none: its pure statement, and its tied card. -/
import Derived.Test.YtcpknkdnboiecaaDoorLawQuoteTwo
import Derived.Test.YtcpknkdnboiecaaDoorKinds
import Derived.Test.YtcpknkdnboiecaaDoorWorks
set_option linter.unusedVariables false
namespace Go.Proofs.YtcpknkdnboiecaaDoor
open Go Go.RowKit Go.Proofs.YtcpknkdnboiecaaDoorW.PrintWords Go.Proofs.YtcpknkdnboiecaaDoorW.PrintMore Go.Lib

theorem toList_data (s : ByteArray) : s.toList = s.data.toList := ByteArray.toList_eq s
theorem fails_of (s : ByteArray) (hs : s.size ≤ 17592186044416) (h : unquoteP s = none) : P.driftnetlaw04_fails.f s = some true := by
  unfold P.driftnetlaw04_fails.f P.quote_Unquote.f
  rw [if_pos hs, h]
  show (if (40 : Int) = 40 then some ((⟨#[]⟩ : ByteArray).toList == ([] : List UInt8)) else some false) = some true
  rw [if_pos rfl, toList_data]
  rfl
theorem fails_list (l : List UInt8) (hs : l.length ≤ 17592186044416) (h : unquoteP ⟨l.toArray⟩ = none) (s : ByteArray) (e : s.data.toList = l) : P.driftnetlaw04_fails.f s = some true := by
  have : s = ⟨l.toArray⟩ := ba_ext e
  subst this
  exact fails_of _ hs h

theorem qp_first {r : Int} {l : List UInt8} (h : Kind r l) : ∃ c m, qp r l = c :: m ∧ c ≠ 34 := by
  unfold qp
  split
  · exact ⟨_, _, rfl, by decide⟩
  · split
    · exact ⟨_, _, rfl, by decide⟩
    · split
      · exact ⟨_, _, rfl, by decide⟩
      · split
        · exact ⟨_, _, rfl, by decide⟩
        · split
          · exact ⟨_, _, rfl, by decide⟩
          · split
            · exact ⟨_, _, rfl, by decide⟩
            · rename_i h34 _ _ _ _ hh
              cases h with
              | ascii c hc =>
                refine ⟨c, [], rfl, ?_⟩
                intro e; subst e; exact h34 rfl
              | multi r l h1 h2 hs he hb hl =>
                cases l with
                | nil => simp at hl
                | cons c m =>
                  refine ⟨c, m, rfl, ?_⟩
                  intro e; subst e
                  have := hb 34 (by simp)
                  exact absurd this (by decide)
              | bad c hc => exact absurd (show (65533 : Int) = 65533 ∧ [c].length = 1 from ⟨rfl, rfl⟩) (fun x => hh (Or.inr (Or.inr x)))
theorem hexByte_ne : ∀ c : Fin 16, hexByte c.val ≠ 34 := by decide +kernel
theorem snoc_inj {m m' : List UInt8} {e e' : UInt8} (h : m ++ [e] = m' ++ [e']) : m = m' ∧ e = e' := by
  have := List.append_inj' h rfl
  exact ⟨this.1, by simpa using this.2⟩
theorem qp_last {r : Int} {l : List UInt8} (h : Kind r l) (m : List UInt8) (hm : qp r l = m ++ [34]) : m = [92] := by
  unfold qp at hm
  have three : ∀ (a b : UInt8), [a, b] = [a] ++ [b] := fun _ _ => rfl
  split at hm
  · rename_i h34
    cases h with
    | ascii c hc =>
      have := snoc_inj (show [92] ++ [c] = m ++ [34] from hm)
      exact this.1.symm
    | multi r l h1 h2 hs he hb hl => omega
    | bad c hc => exact absurd h34 (by decide)
  · split at hm
    · rename_i h92
      cases h with
      | ascii c hc =>
        have := snoc_inj (show [92] ++ [c] = m ++ [34] from hm)
        exact this.1.symm
      | multi r l h1 h2 hs he hb hl => omega
      | bad c hc => exact absurd h92 (by decide)
    · split at hm
      · exact absurd (snoc_inj (show [92] ++ [110] = m ++ [34] from hm)).2 (by decide)
      · split at hm
        · exact absurd (snoc_inj (show [92] ++ [114] = m ++ [34] from hm)).2 (by decide)
        · split at hm
          · exact absurd (snoc_inj (show [92] ++ [116] = m ++ [34] from hm)).2 (by decide)
          · split at hm
            · exact absurd (snoc_inj (show [92, 120, hexByte ((l.getD 0 0).toNat / 16)] ++ [hexByte ((l.getD 0 0).toNat % 16)] = m ++ [34] from hm)).2 (hexByte_ne ⟨(l.getD 0 0).toNat % 16, Nat.mod_lt _ (by decide)⟩)
            · rename_i h34 _ _ _ _ hh
              cases h with
              | ascii c hc =>
                have := (snoc_inj (show [] ++ [c] = m ++ [34] from hm)).2
                subst this
                exact absurd rfl h34
              | multi r l h1 h2 hs he hb hl =>
                have := hb 34 (by rw [hm]; simp)
                exact absurd this (by decide)
              | bad c hc => exact absurd (show (65533 : Int) = 65533 ∧ [c].length = 1 from ⟨rfl, rfl⟩) (fun x => hh (Or.inr (Or.inr x)))

/-- The bytes between the quotes. -/
def body (s : ByteArray) : List UInt8 := (piecesOf s).flatMap quotePiece
theorem quoteBytes_body (s : ByteArray) : quoteBytes s = 34 :: (body s ++ [34]) := rfl
theorem body_length (s : ByteArray) : (body s).length ≤ 5 * s.size := by
  have h1 := flatMap_length (piecesOf s) (piecesOf_ok s)
  have h2 := piecesOf_length s
  unfold body; omega
theorem body_read (s : ByteArray) (rest acc : List UInt8) : unq true (body s ++ rest) acc = unq true rest (acc ++ s.data.toList) := by
  unfold body
  rw [pieces_read _ (kinds s), flat]
theorem body_first (s : ByteArray) : body s = [] ∨ ∃ c m, body s = c :: m ∧ c ≠ 34 := by
  have hk := kinds s
  unfold body
  cases hp : piecesOf s with
  | nil => exact .inl rfl
  | cons x ps =>
    rw [hp] at hk
    obtain ⟨c, m, e, hc⟩ := qp_first (hk x (by simp))
    refine .inr ⟨c, m ++ ps.flatMap quotePiece, ?_, hc⟩
    rw [List.flatMap_cons, quotePiece_qp, e]; rfl
theorem body_last (s : ByteArray) (m : List UInt8) (h : body s = m ++ [34]) : unq true m [] = none := by
  have hk := kinds s
  unfold body at h
  rcases List.eq_nil_or_concat (piecesOf s) with hp | ⟨ps, x, hp⟩
  · rw [hp] at h
    simp at h
  · rw [List.concat_eq_append] at hp
    rw [hp] at h hk
    rw [List.flatMap_append, List.flatMap_cons, List.flatMap_nil, List.append_nil, quotePiece_qp] at h
    obtain ⟨c, q, e, hc⟩ := qp_first (hk x (by simp))
    rcases List.eq_nil_or_concat (qp x.1 x.2.data.toList) with hq | ⟨q2, y, hq⟩
    · rw [hq] at e; cases e
    · rw [List.concat_eq_append] at hq
      rw [hq, ← List.append_assoc] at h
      have h2 := snoc_inj h
      rw [h2.2] at hq
      have h3 := qp_last (hk x (by simp)) q2 hq
      rw [← h2.1, h3, pieces_read ps (fun y hy => hk y (by simp [hy])), unq_cons, if_neg (by decide), if_pos (by decide)]
      rfl

theorem two_fail (s t : ByteArray) : unquoteP ⟨(quoteBytes s ++ quoteBytes t).toArray⟩ = none := by
  have e : quoteBytes s ++ quoteBytes t = 34 :: ((body s ++ 34 :: 34 :: body t) ++ [34]) := by simp [quoteBytes_body]
  rw [e, unquoteP_mk, if_pos rfl, if_pos rfl, body_read, unq_cons, if_pos (by decide)]
theorem cut_fail (s : ByteArray) : unquoteP ⟨(34 :: body s).toArray⟩ = none := by
  rcases List.eq_nil_or_concat (body s) with h | ⟨m, e, h⟩
  · rw [h]; exact unquoteP_short _ (by decide)
  · rw [List.concat_eq_append] at h
    rw [h, unquoteP_mk]
    by_cases he : 34 = e
    · subst he
      rw [if_pos rfl, if_pos rfl, body_last s m h]
    · rw [if_neg he]
theorem behind_fail (s : ByteArray) : unquoteP ⟨(quoteBytes s ++ [32]).toArray⟩ = none := by
  have e : quoteBytes s ++ [32] = 34 :: ((body s ++ [34]) ++ [32]) := by simp [quoteBytes_body]
  rw [e, unquoteP_mk, if_neg (by decide)]
theorem ahead_fail (s : ByteArray) : unquoteP ⟨(32 :: quoteBytes s).toArray⟩ = none := by
  have e : 32 :: quoteBytes s = 32 :: ((34 :: body s) ++ [34]) := by simp [quoteBytes_body]
  rw [e, unquoteP_mk, if_neg (by decide)]
theorem tail_fail (s : ByteArray) : unquoteP ⟨(body s ++ [34]).toArray⟩ = none := by
  rcases body_first s with h | ⟨c, m, h, hc⟩
  · rw [h]; exact unquoteP_short _ (by decide)
  · rw [h]
    have e : c :: m ++ [34] = c :: (m ++ [34]) := rfl
    rw [e, unquoteP_mk, if_neg hc]

theorem head_size (a : ByteArray) (n : Int) : (a.extract 0 (mn (a.size : Int) n).toNat).size ≤ n.toNat := by
  rw [ByteArray.size_extract]
  unfold mn
  split <;> omega

theorem quoteTwo_pure : P.driftnetlaw04_QuoteTwo.Pure := by
  intro a0 a1 h0 h1
  refine ⟨5, ?_⟩
  have m0 : 0 ≤ mn (a0.size : Int) 500 ∧ mn (a0.size : Int) 500 ≤ (a0.size : Int) := by unfold mn; split <;> omega
  have m1 : 0 ≤ mn (a1.size : Int) 500 ∧ mn (a1.size : Int) 500 ≤ (a1.size : Int) := by unfold mn; split <;> omega
  have s0 := head_size a0 500
  have s1 := head_size a1 500
  simp only [Int.reduceToNat] at s0 s1
  unfold P.driftnetlaw04_QuoteTwo.f
  rw [works_true, Option.bind_some, if_pos rfl, if_pos m0.1, if_pos m0.2]
  generalize a0.extract 0 (mn (a0.size : Int) 500).toNat = s at s0
  unfold P.quote_Quote.f
  rw [if_pos (by omega), Option.bind_some, if_pos m1.1, if_pos m1.2]
  generalize a1.extract 0 (mn (a1.size : Int) 500).toNat = t at s1
  rw [if_pos (by omega), Option.bind_some]
  have ls := body_length s
  have lt := body_length t
  have es : (⟨(quoteBytes s).toArray⟩ : ByteArray).size = (body s).length + 2 := by show (quoteBytes s).length = _; rw [quoteBytes_body]; simp
  have et : (⟨(quoteBytes t).toArray⟩ : ByteArray).size = (body t).length + 2 := by show (quoteBytes t).length = _; rw [quoteBytes_body]; simp
  have ds : (⟨(quoteBytes s).toArray⟩ : ByteArray).data.toList = quoteBytes s := rfl
  have dt : (⟨(quoteBytes t).toArray⟩ : ByteArray).data.toList = quoteBytes t := rfl
  have qs : (quoteBytes s).length = (body s).length + 2 := es
  have qt : (quoteBytes t).length = (body t).length + 2 := et
  generalize (⟨(quoteBytes s).toArray⟩ : ByteArray) = A at es ds
  generalize (⟨(quoteBytes t).toArray⟩ : ByteArray) = B at et dt
  have hw : wrap64 ((A.size : Int) - 1) = (A.size : Int) - 1 := by unfold wrap64; omega
  rw [if_neg (by omega), show decide ((B.size : Int) < 2) = false from decide_eq_false (by omega)]
  rw [P.driftnetlaw04_QuoteTwo.j0, if_neg (by decide), if_pos (by omega)]
  rw [fails_list (quoteBytes s ++ quoteBytes t) (by rw [List.length_append]; omega) (two_fail s t) (A ++ B) (by rw [ByteArray.data_append, Array.toList_append, ds, dt])]
  rw [Option.bind_some, if_pos rfl, hw, if_pos (by omega), if_pos (by omega)]
  rw [fails_list (34 :: body s) (by rw [List.length_cons]; omega) (cut_fail s) (A.extract 0 ((A.size : Int) - 1).toNat) (by
    rw [ba_extract, ds, quoteBytes_body, List.drop_zero, show ((A.size : Int) - 1).toNat = (body s).length + 1 by omega, List.take_succ_cons, List.take_left])]
  rw [Option.bind_some, if_pos rfl, if_pos (by omega)]
  rw [fails_list (quoteBytes s ++ [32]) (by rw [List.length_append, List.length_singleton]; omega) (behind_fail s) (A ++ ⟨#[32]⟩) (by rw [ByteArray.data_append, Array.toList_append, ds])]
  rw [Option.bind_some, if_pos rfl, if_pos (by omega)]
  rw [fails_list (32 :: quoteBytes s) (by rw [List.length_cons]; omega) (ahead_fail s) (⟨#[32]⟩ ++ A) (by rw [ByteArray.data_append, Array.toList_append, ds]; rfl)]
  rw [Option.bind_some, if_pos rfl, if_pos (by omega)]
  rw [fails_list (body s ++ [34]) (by rw [List.length_append, List.length_singleton]; omega) (tail_fail s) (A.extract 1 A.size) (by
    rw [ba_extract, ds, quoteBytes_body, List.take_of_length_le (by rw [List.length_cons, List.length_append, List.length_singleton]; omega)]; rfl)]
  rfl

theorem quoteTwo_card : Rows.QuoteTwoCardSaid := quoteTwo.card_of quoteTwo_pure
#print axioms quoteTwo_card
end Go.Proofs.YtcpknkdnboiecaaDoor
