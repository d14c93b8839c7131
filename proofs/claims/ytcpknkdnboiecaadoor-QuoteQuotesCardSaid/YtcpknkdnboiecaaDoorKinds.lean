/- What the runes of a text are, with their bytes; that what stands in quotes for them is read as they were. No program in sight. -/
import Derived.Test.YtcpknkdnboiecaaDoorUnqL
import Derived.Test.YtcpknkdnboiecaaDoorQuote
import Derived.Lib.MapLaws
import Derived.Lib.TrimAscii
set_option linter.unusedVariables false
namespace Go.Proofs.YtcpknkdnboiecaaDoor
open Go Go.Proofs.YtcpknkdnboiecaaDoorW.PrintWords Go.Lib

/-- A rune of a text with its bytes: below 128; more bytes than one, each from 128 on; a byte that is none's. -/
inductive Kind : Int → List UInt8 → Prop
  | ascii (c : UInt8) (h : c.toNat < 128) : Kind c.toNat [c]
  | multi (r : Nat) (l : List UInt8) (h1 : 128 ≤ r) (h2 : r ≤ 1114111) (hs : r < 55296 ∨ 57343 < r) (he : l = encodeRune (r : Int)) (hb : ∀ c ∈ l, 128 ≤ c.toNat) (hl : 2 ≤ l.length ∧ l.length ≤ 4) : Kind r l
  | bad (c : UInt8) (h : 128 ≤ c.toNat) : Kind 65533 [c]

theorem decodeGo_list (l : List UInt8) (h : l ≠ []) : decodeGo ⟨l.toArray⟩ = decodeL l := by
  unfold decodeGo
  rw [if_neg (by show ¬ l.length = 0; simpa using h)]
  rfl

theorem len2 : ∀ (a : UInt8) (t : List UInt8), 1 < (a :: t).length → ∃ b t', t = b :: t'
  | _, [], h => absurd h (by simp)
  | _, b :: t', _ => ⟨b, t', rfl⟩
theorem len3 : ∀ (a : UInt8) (t : List UInt8), 2 < (a :: t).length → ∃ b d t', t = b :: d :: t'
  | _, [], h => absurd h (by simp)
  | _, [_], h => absurd h (by simp)
  | _, b :: d :: t', _ => ⟨b, d, t', rfl⟩
theorem len4 : ∀ (a : UInt8) (t : List UInt8), 3 < (a :: t).length → ∃ b d f t', t = b :: d :: f :: t'
  | _, [], h => absurd h (by simp)
  | _, [_], h => absurd h (by simp)
  | _, [_, _], h => absurd h (by simp)
  | _, b :: d :: f :: t', _ => ⟨b, d, f, t', rfl⟩
theorem head_kind (l : List UInt8) (hne : l ≠ []) : Kind ((decodeL l).1 : Nat) (l.take (decodeL l).2) := by
  have hed := encode_decode l hne
  obtain ⟨a, t, rfl⟩ : ∃ a t, l = a :: t := by cases l with | nil => exact absurd rfl hne | cons a t => exact ⟨a, t, rfl⟩
  rw [decodeL_N] at hed ⊢
  have k0 := a.toNat_lt
  rcases decodeN_shape (a :: t).length ((a :: t).getD 0 0).toNat ((a :: t).getD 1 0).toNat ((a :: t).getD 2 0).toNat ((a :: t).getD 3 0).toNat with ⟨c, e⟩ | ⟨c1, c2, c3, cv, e⟩ | ⟨c1, c2, c3, c4, cv, cs, e⟩ | ⟨c1, c2, c3, c4, c5, cv, cw, e⟩ | e
  · rw [e]
    exact Kind.ascii a c
  · rw [e] at hed ⊢
    simp only at hed ⊢
    obtain ⟨b, t, rfl⟩ : ∃ b t', t = b :: t' := len2 a t c2
    simp only [List.getD_cons_zero, List.getD_cons_succ] at c1 c3 cv hed ⊢
    refine Kind.multi _ _ cv (by omega) (by omega) (hed (by omega)).symm ?_ (by simp)
    intro c hc
    simp at hc
    rcases hc with rfl | rfl <;> omega
  · rw [e] at hed ⊢
    simp only at hed ⊢
    obtain ⟨b, d, t, rfl⟩ : ∃ b d t', t = b :: d :: t' := len3 a t c2
    simp only [List.getD_cons_zero, List.getD_cons_succ] at c1 c3 c4 cv cs hed ⊢
    refine Kind.multi _ _ (by omega) (by omega) (by omega) (hed (by omega)).symm ?_ (by simp)
    intro c hc
    simp at hc
    rcases hc with rfl | rfl | rfl <;> omega
  · rw [e] at hed ⊢
    simp only at hed ⊢
    obtain ⟨b, d, f, t, rfl⟩ : ∃ b d f t', t = b :: d :: f :: t' := len4 a t c2
    simp only [List.getD_cons_zero, List.getD_cons_succ] at c1 c3 c4 c5 cv cw hed ⊢
    refine Kind.multi _ _ (by omega) (by omega) (by omega) (hed (by omega)).symm ?_ (by simp)
    intro c hc
    simp at hc
    rcases hc with rfl | rfl | rfl | rfl <;> omega
  · rw [e]
    refine Kind.bad a ?_
    rcases Nat.lt_or_ge a.toNat 128 with h | h
    · have := decodeN_ascii (a :: t).length ((a :: t).getD 0 0).toNat ((a :: t).getD 1 0).toNat ((a :: t).getD 2 0).toNat ((a :: t).getD 3 0).toNat h
      rw [e] at this
      have h2 := congrArg Prod.fst this
      simp only at h2
      have h3 : (a :: t).getD 0 0 = a := rfl
      rw [h3] at h2
      omega
    · exact h

theorem kinds_flat : ∀ (n : Nat) (s : ByteArray), s.size ≤ n → (∀ x ∈ piecesOf s, Kind x.1 x.2.data.toList) ∧ ((piecesOf s).flatMap fun x => x.2.data.toList) = s.data.toList
  | n, s, hn => by
    by_cases h0 : s.size = 0
    · rw [piecesOf_nil s h0]
      refine ⟨fun x hx => (by cases hx), ?_⟩
      have : s.data.toList.length = 0 := by rw [ba_len, h0]
      rw [List.eq_nil_of_length_eq_zero this]; rfl
    · have hb := decodeGo_bounds s h0
      cases n with
      | zero => omega
      | succ n =>
        have ih := kinds_flat n (s.extract (decodeGo s).2 s.size) (by rw [extract_size]; omega)
        rw [piecesOf_cons s h0]
        have hl : s.data.toList ≠ [] := fun h => by have := ba_len s; rw [h] at this; simp at this; omega
        have hs : s = ⟨s.data.toList.toArray⟩ := ba_ext rfl
        have hd : decodeGo s = decodeL s.data.toList := by
          have := decodeGo_list s.data.toList hl
          rw [← hs] at this
          exact this
        have e1 : (s.extract 0 (decodeGo s).2).data.toList = s.data.toList.take (decodeL s.data.toList).2 := by rw [ba_extract, hd, List.drop_zero]
        have e2 : (s.extract (decodeGo s).2 s.size).data.toList = s.data.toList.drop (decodeL s.data.toList).2 := by
          rw [ba_extract, hd, List.take_of_length_le (by rw [ba_len]; exact Nat.le_refl _)]
        constructor
        · intro x hx
          rcases List.mem_cons.1 hx with rfl | hx
          · simp only
            rw [e1, hd]
            exact head_kind _ hl
          · exact ih.1 x hx
        · rw [List.flatMap_cons, ih.2]
          simp only
          rw [e1, e2, List.take_append_drop]
theorem kinds (s : ByteArray) : ∀ x ∈ piecesOf s, Kind x.1 x.2.data.toList := (kinds_flat s.size s (Nat.le_refl _)).1
theorem flat (s : ByteArray) : ((piecesOf s).flatMap fun x => x.2.data.toList) = s.data.toList := (kinds_flat s.size s (Nat.le_refl _)).2

/-- What stands in quotes for a rune, of its bytes as a list. -/
def qp (r : Int) (l : List UInt8) : List UInt8 :=
  if r = 34 then 92 :: l else if r = 92 then 92 :: l else if r = 10 then [92, 110] else if r = 13 then [92, 114] else if r = 9 then [92, 116]
  else if r < 32 ∨ r = 127 ∨ (r = 65533 ∧ l.length = 1) then [92, 120, hexByte ((l.getD 0 0).toNat / 16), hexByte ((l.getD 0 0).toNat % 16)] else l
theorem quotePiece_qp (x : Int × ByteArray) : quotePiece x = qp x.1 x.2.data.toList := by
  unfold quotePiece qp
  have e : x.2.get! 0 = x.2.data.toList.getD 0 0 := by
    obtain ⟨r, b⟩ := x
    cases b with | mk d => cases d with | mk l => cases l <;> rfl
  rw [e, ba_len]

theorem hex_read : ∀ c : Fin 256, allHex [hexByte (c.val / 16), hexByte (c.val % 16)] = true ∧ hexVal [hexByte (c.val / 16), hexByte (c.val % 16)] = c.val := by decide +kernel

theorem unq_esc (c : UInt8) (b : Nat) (h : escOf c.toNat = some b) (rest acc : List UInt8) : unq true (92 :: c :: rest) acc = unq true rest (acc ++ [UInt8.ofNat b]) := by
  rw [unq_cons, if_neg (by decide), if_pos (by decide), escL, h]
theorem unq_hex (c : UInt8) (rest acc : List UInt8) : unq true (92 :: 120 :: hexByte (c.toNat / 16) :: hexByte (c.toNat % 16) :: rest) acc = unq true rest (acc ++ [c]) := by
  obtain ⟨h1, h2⟩ := hex_read ⟨c.toNat, c.toNat_lt⟩
  simp only at h1 h2
  rw [unq_cons, if_neg (by decide), if_pos (by decide), escL, show escOf (120 : UInt8).toNat = none from rfl, show codOf (120 : UInt8).toNat = some 2 from rfl]
  simp only
  rw [if_neg (by simp)]
  simp only [List.take_succ_cons, List.take_zero, List.drop_succ_cons, List.drop_zero]
  rw [if_pos h1, h2]
  simp
theorem unq_plain (dq : Bool) (c : UInt8) (h1 : c.toNat ≠ markOf dq) (h2 : c.toNat ≠ 10) (h3 : c.toNat ≠ 92) (rest acc : List UInt8) : unq dq (c :: rest) acc = unq dq rest (acc ++ [c]) := by
  rw [unq_cons, if_neg (by rintro (h | ⟨_, h⟩); exact h1 h; exact h2 h), if_neg (by rintro ⟨_, h⟩; exact h3 h)]
theorem unq_high (dq : Bool) : ∀ (l rest acc : List UInt8), (∀ c ∈ l, 128 ≤ c.toNat) → unq dq (l ++ rest) acc = unq dq rest (acc ++ l)
  | [], rest, acc, _ => by simp
  | c :: l, rest, acc, h => by
    have hc := h c (by simp)
    rw [List.cons_append, unq_plain dq c (by unfold markOf; split <;> omega) (by omega) (by omega), unq_high dq l rest _ (fun x hx => h x (by simp [hx]))]
    simp

theorem qp_read {r : Int} {l : List UInt8} (h : Kind r l) (rest acc : List UInt8) : unq true (qp r l ++ rest) acc = unq true rest (acc ++ l) := by
  cases h with
  | ascii c hc =>
    have u : ∀ n : Nat, n < 256 → c.toNat = n → c = UInt8.ofNat n := fun n hn h => by rw [← h]; simp
    unfold qp
    by_cases h34 : c.toNat = 34
    · rw [if_pos (by omega), u 34 (by omega) h34]; exact unq_esc 34 34 rfl rest acc
    · rw [if_neg (by omega)]
      by_cases h92 : c.toNat = 92
      · rw [if_pos (by omega), u 92 (by omega) h92]; exact unq_esc 92 92 rfl rest acc
      · rw [if_neg (by omega)]
        by_cases h10 : c.toNat = 10
        · rw [if_pos (by omega), u 10 (by omega) h10]; exact unq_esc 110 10 rfl rest acc
        · rw [if_neg (by omega)]
          by_cases h13 : c.toNat = 13
          · rw [if_pos (by omega), u 13 (by omega) h13]; exact unq_esc 114 13 rfl rest acc
          · rw [if_neg (by omega)]
            by_cases h9 : c.toNat = 9
            · rw [if_pos (by omega), u 9 (by omega) h9]; exact unq_esc 116 9 rfl rest acc
            · rw [if_neg (by omega)]
              by_cases hh : c.toNat < 32 ∨ c.toNat = 127
              · rw [if_pos (by omega)]; exact unq_hex c rest acc
              · rw [if_neg (by omega)]
                exact unq_plain true c (by unfold markOf; simpa using h34) h10 h92 rest acc
  | multi r l h1 h2 hs he hb hl =>
    unfold qp
    rw [if_neg (by omega), if_neg (by omega), if_neg (by omega), if_neg (by omega), if_neg (by omega), if_neg (by omega)]
    exact unq_high true l rest acc hb
  | bad c hc =>
    unfold qp
    rw [if_neg (by decide), if_neg (by decide), if_neg (by decide), if_neg (by decide), if_neg (by decide), if_pos (by right; right; exact ⟨rfl, rfl⟩)]
    exact unq_hex c rest acc

theorem pieces_read : ∀ (ps : List (Int × ByteArray)), (∀ x ∈ ps, Kind x.1 x.2.data.toList) → ∀ (rest acc : List UInt8), unq true (ps.flatMap quotePiece ++ rest) acc = unq true rest (acc ++ ps.flatMap fun x => x.2.data.toList)
  | [], _, rest, acc => by simp
  | x :: ps, h, rest, acc => by
    rw [List.flatMap_cons, List.append_assoc, quotePiece_qp, qp_read (h x (by simp)), pieces_read ps (fun y hy => h y (by simp [hy])), List.flatMap_cons, List.append_assoc]

/-- What was put in quotes is read as it was. -/
theorem unquote_quote (s : ByteArray) : unquoteP ⟨(quoteBytes s).toArray⟩ = some s.data.toList := by
  unfold quoteBytes
  rw [show (34 : UInt8) :: (piecesOf s).flatMap quotePiece ++ [34] = 34 :: ((piecesOf s).flatMap quotePiece ++ [34]) from rfl, unquoteP_mk, if_pos rfl, if_pos rfl]
  have := pieces_read (piecesOf s) (kinds s) [] []
  rw [List.append_nil] at this
  rw [this, unq_nil, flat]
  rfl
end Go.Proofs.YtcpknkdnboiecaaDoor
