/- The reference's functions of the chapter tell what the program's do. No program in sight. -/
import Derived.Test.YtcpknkdnboiecaaDoorFRefU
import Derived.Test.YtcpknkdnboiecaaDoorFRef
import Derived.Test.YtcpknkdnboiecaaDoorDecEnc
import Derived.Test.YtcpknkdnboiecaaDoorUnqL
import Derived.Lib.RuneBytes
set_option linter.unusedVariables false
namespace Go.Proofs.YtcpknkdnboiecaaDoor
open Go Go.RowKit Go.Proofs.YtcpknkdnboiecaaDoorW.PrintWords Go.Proofs.YtcpknkdnboiecaaDoorW.PrintLast Go.Proofs.YtcpknkdnboiecaaDoorW.PrintMore Go.Lib

theorem i32_and63 (x : Int) (h0 : 0 ≤ x) (h1 : x < 2147483648) : Go.bits .and .i32 x 63 = x % 64 := bits_mask .i32 31 (by decide) wraps_i32 6 (by decide) x h0 h1
theorem six0 (v : Nat) (h : v ≤ 1114111) : P.driftnetref04_six.f v 0 = some ((128 + v % 64 : Nat) : Int) := by
  unfold P.driftnetref04_six.f
  rw [if_pos (by decide), show shr .i32 (v : Int) 0 = (v : Int) by unfold shr; simp, i32_and63 _ (by omega) (by omega)]
  congr 1
  unfold wrap32; omega
theorem six6 (v : Nat) (h : v ≤ 1114111) : P.driftnetref04_six.f v 6 = some ((128 + v / 64 % 64 : Nat) : Int) := by
  unfold P.driftnetref04_six.f
  rw [if_pos (by decide), show shr .i32 (v : Int) 6 = (v : Int) / 64 by rfl, i32_and63 _ (by omega) (by omega)]
  congr 1
  unfold wrap32; omega
theorem six12 (v : Nat) (h : v ≤ 1114111) : P.driftnetref04_six.f v 12 = some ((128 + v / 4096 % 64 : Nat) : Int) := by
  unfold P.driftnetref04_six.f
  rw [if_pos (by decide), show shr .i32 (v : Int) 12 = (v : Int) / 4096 by rfl, i32_and63 _ (by omega) (by omega)]
  congr 1
  unfold wrap32; omega

theorem strOf_eq (xs : List Int) (l : List UInt8) (h : xs.map (fun n => UInt8.ofNat n.toNat) = l) : strOfNums xs = ⟨l.toArray⟩ := ba_ext (by rw [strOfNums_data, h])
theorem ofNat_toNat (x : Int) (n : Nat) (h : x = n) : UInt8.ofNat x.toNat = n.toUInt8 := by subst h; rfl

theorem ref_enc_j (v : Nat) (hv : validR v) (k : Nat) : P.driftnetref04_Encode.j0 (k + 1) (v : Int) = some ⟨(encodeRune (v : Int)).toArray⟩ := by
  have hm : v ≤ 1114111 := by unfold validR at hv; omega
  rw [P.driftnetref04_Encode.j0, six0 v hm, Option.bind_some]
  by_cases c1 : v < 128
  · rw [if_pos (by omega), enc1 v c1]
    congr 1
    refine strOf_eq _ _ ?_
    simp only [List.map_cons, List.map_nil]
    rw [ofNat_toNat _ v (by omega)]
  · by_cases c2 : v < 2048
    · rw [if_neg (by omega), if_pos (by omega), enc2 v (by omega) c2]
      congr 1
      refine strOf_eq _ _ ?_
      simp only [List.map_cons, List.map_nil]
      rw [ofNat_toNat _ (192 + v / 64) (by unfold wrap32; omega), ofNat_toNat _ (128 + v % 64) rfl]
    · by_cases c3 : v < 65536
      · rw [if_neg (by omega), if_neg (by omega), if_pos (by omega), six6 v hm, Option.bind_some, enc3 v (by omega) c3 (by unfold validR at hv; omega)]
        congr 1
        refine strOf_eq _ _ ?_
        simp only [List.map_cons, List.map_nil]
        rw [ofNat_toNat _ (224 + v / 4096) (by unfold wrap32; omega), ofNat_toNat _ (128 + v / 64 % 64) rfl, ofNat_toNat _ (128 + v % 64) rfl]
      · rw [if_neg (by omega), if_neg (by omega), if_neg (by omega), six12 v hm, Option.bind_some, six6 v hm, Option.bind_some, enc4 v (by omega) hm]
        congr 1
        refine strOf_eq _ _ ?_
        simp only [List.map_cons, List.map_nil]
        rw [ofNat_toNat _ (240 + v / 262144) (by unfold wrap32; omega), ofNat_toNat _ (128 + v / 4096 % 64) rfl, ofNat_toNat _ (128 + v / 64 % 64) rfl, ofNat_toNat _ (128 + v % 64) rfl]

theorem isRune_f (r : Int) : P.driftnetref04_isRune.f r = some (decide (0 ≤ r ∧ r ≤ 1114111 ∧ (r < 55296 ∨ 57343 < r))) := by
  unfold P.driftnetref04_isRune.f
  repeat' split
  all_goals congr 1
  all_goals first
    | (symm; exact decide_eq_true (by omega))
    | (symm; exact decide_eq_false (by omega))
    | (rw [Bool.eq_iff_iff, decide_eq_true_iff, decide_eq_true_iff]; omega)
theorem ref_encode (r : Int) (k : Nat) : P.driftnetref04_Encode.f (k + 1) r = some ⟨(encodeRune r).toArray⟩ := by
  unfold P.driftnetref04_Encode.f
  rw [isRune_f, Option.bind_some, enc_vr r]
  unfold vr
  by_cases h : 0 ≤ r ∧ r ≤ 1114111 ∧ (r < 55296 ∨ 57343 < r)
  · rw [decide_eq_true h, if_pos rfl, if_pos h]
    have := ref_enc_j r.toNat (by unfold validR; omega) k
    rwa [show ((r.toNat : Nat) : Int) = r by omega] at this ⊢
  · rw [decide_eq_false h, if_neg (by decide), if_neg h]
    exact ref_enc_j 65533 (by unfold validR; omega) k

theorem bt_nat (s : ByteArray) (i : Nat) : bt s (i : Int) = (s.data.toList.getD i 0).toNat := by
  unfold bt
  rw [Int.toNat_natCast]
  split
  · rename_i h
    have hl : i < s.data.toList.length := by rw [ba_len]; exact h
    rw [List.getD, List.getElem?_eq_getElem hl]
    rfl
  · rename_i h
    have hl : ¬ i < s.data.toList.length := by rw [ba_len]; exact h
    rw [List.getD, List.getElem?_eq_none (by omega)]
    rfl
theorem u8and (c : UInt8) : Go.bits .and .u8 (c.toNat : Int) 63 = ((c.toNat % 64 : Nat) : Int) := by
  have := c.toNat_lt
  rw [u8_and63 _ (by omega) (by omega)]; omega

/-- The loop ends where the text ends before its bytes do. -/
theorem dec_short (s : ByteArray) (n : Nat) (hn : s.size < n) (hn4 : n ≤ 4) : ∀ (d i k : Nat) (r : Int), s.size - i ≤ d → i ≤ s.size → P.driftnetref04_Decode.l0 (k + d + 1) s (n : Int) r (i : Int) = some (65533, 1) := by
  intro d
  induction d with
  | zero =>
    intro i k r hd hi
    rw [Nat.add_zero, P.driftnetref04_Decode.l0, if_pos (by omega), if_neg (by omega), if_pos (by omega)]
  | succ d ih =>
    intro i k r hd hi
    rw [show k + (d + 1) + 1 = (k + d + 1) + 1 by omega, P.driftnetref04_Decode.l0, if_pos (by omega)]
    by_cases h : i < s.size
    · rw [if_pos (by omega), if_pos (by omega), show wrap64 ((i : Int) + 1) = ((i + 1 : Nat) : Int) by unfold wrap64; omega]
      exact ih (i + 1) k _ (by omega) (by omega)
    · rw [if_neg (by omega), if_pos (by omega)]
end Go.Proofs.YtcpknkdnboiecaaDoor
set_option linter.unusedVariables false
namespace Go.Proofs.YtcpknkdnboiecaaDoor
open Go Go.RowKit Go.Proofs.YtcpknkdnboiecaaDoorW.PrintWords Go.Proofs.YtcpknkdnboiecaaDoorW.PrintLast Go.Proofs.YtcpknkdnboiecaaDoorW.PrintMore Go.Lib

theorem u8_eq (a : UInt8) (n : Nat) (h : n < 256) : n.toUInt8 = a ↔ n = a.toNat := by
  constructor
  · intro e; rw [← e, u8n n h]
  · intro e; rw [e]; simp
theorem take_data (s : ByteArray) (n : Nat) : (s.extract 0 n).toList = s.data.toList.take n := by
  rw [ByteArray.toList_eq, ba_extract, List.drop_zero]

theorem dec_fin (s : ByteArray) (n : Nat) (r : Nat) (h : n ≤ s.size) (k : Nat) : P.driftnetref04_Decode.l0 (k + 2) s (n : Int) (r : Int) (n : Int) =
    if encodeRune (r : Int) = s.data.toList.take n then some ((r : Int), (n : Int)) else some (65533, 1) := by
  rw [P.driftnetref04_Decode.l0, if_neg (by omega), if_neg (by omega), ref_encode, Option.bind_some, if_pos (by omega), if_pos (by omega), Int.toNat_natCast, take_data]
  rw [show (⟨(encodeRune (r : Int)).toArray⟩ : ByteArray).toList = encodeRune (r : Int) by rw [ByteArray.toList_eq]]
theorem dec_step (s : ByteArray) (n i r : Nat) (hi : i < n) (hs : i < s.size) (hi4 : i < 4) (hr : r < 262144) (k : Nat) : P.driftnetref04_Decode.l0 (k + 1) s (n : Int) (r : Int) (i : Int) =
    P.driftnetref04_Decode.l0 k s (n : Int) ((r * 64 + (s.data.toList.getD i 0).toNat % 64 : Nat) : Int) ((i + 1 : Nat) : Int) := by
  rw [P.driftnetref04_Decode.l0, if_pos (by omega), if_pos (by omega), if_pos (by omega), bt_nat, u8and]
  have h1 : wrap32 (wrap32 ((r : Int) * 64) + wrap32 ((((s.data.toList.getD i 0).toNat % 64 : Nat)) : Int)) = ((r * 64 + (s.data.toList.getD i 0).toNat % 64 : Nat) : Int) := by unfold wrap32; omega
  have h2 : wrap64 ((i : Int) + 1) = ((i + 1 : Nat) : Int) := by unfold wrap64; omega
  rw [h1, h2]

theorem dec_pre (s : ByteArray) (h : s.size ≠ 0) (c : Nat) (hc : (s.data.toList.getD 0 0).toNat = c) (m : Nat) : P.driftnetref04_Decode.f (m + 6) s =
    if 192 ≤ c ∧ c < 224 then P.driftnetref04_Decode.l0 m s ((2 : Nat) : Int) ((c - 192 : Nat) : Int) ((1 : Nat) : Int)
    else if 224 ≤ c ∧ c < 240 then P.driftnetref04_Decode.l0 m s ((3 : Nat) : Int) ((c - 224 : Nat) : Int) ((1 : Nat) : Int)
    else if 240 ≤ c ∧ c < 248 then P.driftnetref04_Decode.l0 m s ((4 : Nat) : Int) ((c - 240 : Nat) : Int) ((1 : Nat) : Int)
    else P.driftnetref04_Decode.l0 m s ((1 : Nat) : Int) (c : Int) ((1 : Nat) : Int) := by
  have hb : bt s 0 = (c : Int) := by rw [← hc]; exact bt_nat s 0
  have hc256 : c < 256 := by rw [← hc]; exact (s.data.toList.getD 0 0).toNat_lt
  have hne : ¬ s.toList = ([] : List UInt8) := fun e => by
    rw [ByteArray.toList_eq] at e
    have := ba_len s
    rw [e] at this
    exact h this.symm
  have w0 : wrap32 (c : Int) = c := by unfold wrap32; omega
  unfold P.driftnetref04_Decode.f
  rw [if_neg hne, if_pos (by omega), hb, w0]
  by_cases c1 : c < 192
  · rw [if_neg (by omega), if_neg (by omega), if_neg (by omega), if_neg (by omega)]
    rw [P.driftnetref04_Decode.j0, if_neg (by decide), P.driftnetref04_Decode.j1, if_neg (by omega), P.driftnetref04_Decode.j2, if_neg (by decide), P.driftnetref04_Decode.j3, if_neg (by omega), P.driftnetref04_Decode.j4, if_neg (by decide), P.driftnetref04_Decode.j5]
    rfl
  · rw [if_pos (by omega)]
    by_cases c2 : c < 224
    · rw [if_pos ⟨by omega, c2⟩, show decide ((c : Int) < 224) = true from decide_eq_true (by omega)]
      rw [P.driftnetref04_Decode.j0, if_pos rfl, P.driftnetref04_Decode.j1, if_neg (by omega), P.driftnetref04_Decode.j2, if_neg (by decide), P.driftnetref04_Decode.j3, if_neg (by omega), P.driftnetref04_Decode.j4, if_neg (by decide), P.driftnetref04_Decode.j5]
      rw [show wrap32 ((c : Int) - 192) = ((c - 192 : Nat) : Int) by unfold wrap32; omega]
      rfl
    · rw [if_neg (by omega), show decide ((c : Int) < 224) = false from decide_eq_false (by omega)]
      rw [P.driftnetref04_Decode.j0, if_neg (by decide), P.driftnetref04_Decode.j1, if_pos (by omega)]
      by_cases c3 : c < 240
      · rw [if_pos ⟨by omega, c3⟩, show decide ((c : Int) < 240) = true from decide_eq_true (by omega)]
        rw [P.driftnetref04_Decode.j2, if_pos rfl, P.driftnetref04_Decode.j3, if_neg (by omega), P.driftnetref04_Decode.j4, if_neg (by decide), P.driftnetref04_Decode.j5]
        rw [show wrap32 ((c : Int) - 224) = ((c - 224 : Nat) : Int) by unfold wrap32; omega]
        rfl
      · rw [if_neg (by omega), show decide ((c : Int) < 240) = false from decide_eq_false (by omega)]
        rw [P.driftnetref04_Decode.j2, if_neg (by decide), P.driftnetref04_Decode.j3, if_pos (by omega)]
        by_cases c4 : c < 248
        · rw [if_pos ⟨by omega, c4⟩, show decide ((c : Int) < 248) = true from decide_eq_true (by omega)]
          rw [P.driftnetref04_Decode.j4, if_pos rfl, P.driftnetref04_Decode.j5]
          rw [show wrap32 ((c : Int) - 240) = ((c - 240 : Nat) : Int) by unfold wrap32; omega]
          rfl
        · rw [if_neg (by omega), show decide ((c : Int) < 248) = false from decide_eq_false (by omega)]
          rw [P.driftnetref04_Decode.j4, if_neg (by decide), P.driftnetref04_Decode.j5]
          rfl

/-- What the loop's end tells, at two, three, four bytes. -/
theorem cmp1 (a : UInt8) : (encodeRune (a.toNat : Int) = [a]) ↔ a.toNat < 128 := by
  have := a.toNat_lt
  by_cases h : a.toNat < 128
  · rw [enc1 _ h]; simp [h]
  · rw [enc2 _ (by omega) (by omega)]; simp [h]
theorem cmp2 (a b : UInt8) (ha : 192 ≤ a.toNat ∧ a.toNat < 224) : (encodeRune (((a.toNat - 192) * 64 + b.toNat % 64 : Nat) : Int) = [a, b]) ↔ (b.toNat / 64 = 2 ∧ 128 ≤ (a.toNat - 192) * 64 + b.toNat % 64) := by
  have hb := b.toNat_lt
  generalize hv : (a.toNat - 192) * 64 + b.toNat % 64 = v
  by_cases h : v < 128
  · rw [enc1 _ h]; simp; omega
  · rw [enc2 _ (by omega) (by omega), List.cons.injEq, List.cons.injEq, u8_eq _ _ (by omega), u8_eq _ _ (by omega)]
    constructor
    · rintro ⟨h1, h2, _⟩; omega
    · rintro ⟨h1, h2⟩; exact ⟨by omega, by omega, rfl⟩
theorem cmp3 (a b c : UInt8) (ha : 224 ≤ a.toNat ∧ a.toNat < 240) : (encodeRune ((((a.toNat - 224) * 64 + b.toNat % 64) * 64 + c.toNat % 64 : Nat) : Int) = [a, b, c]) ↔
    (b.toNat / 64 = 2 ∧ c.toNat / 64 = 2 ∧ 2048 ≤ ((a.toNat - 224) * 64 + b.toNat % 64) * 64 + c.toNat % 64 ∧ (((a.toNat - 224) * 64 + b.toNat % 64) * 64 + c.toNat % 64 < 55296 ∨ 57343 < ((a.toNat - 224) * 64 + b.toNat % 64) * 64 + c.toNat % 64)) := by
  have hb := b.toNat_lt
  have hc := c.toNat_lt
  generalize hv : ((a.toNat - 224) * 64 + b.toNat % 64) * 64 + c.toNat % 64 = v
  by_cases h1 : v < 128
  · rw [enc1 _ h1]; simp; omega
  · by_cases h2 : v < 2048
    · rw [enc2 _ (by omega) h2]; simp; omega
    · by_cases hs : v < 55296 ∨ 57343 < v
      · rw [enc3 _ (by omega) (by omega) hs, List.cons.injEq, List.cons.injEq, List.cons.injEq, u8_eq _ _ (by omega), u8_eq _ _ (by omega), u8_eq _ _ (by omega)]
        constructor
        · rintro ⟨e1, e2, e3, _⟩; omega
        · rintro ⟨e1, e2, e3, e4⟩; exact ⟨by omega, by omega, by omega, rfl⟩
      · have hvr : vr (v : Int) = 65533 := by unfold vr; rw [if_neg (by omega)]
        rw [enc_vr, hvr, enc3 65533 (by omega) (by omega) (by omega), List.cons.injEq, List.cons.injEq, List.cons.injEq, u8_eq _ _ (by omega), u8_eq _ _ (by omega), u8_eq _ _ (by omega)]
        constructor
        · rintro ⟨e1, e2, e3, _⟩; omega
        · rintro ⟨e1, e2, e3, e4⟩; omega
theorem cmp4 (a b c d : UInt8) (ha : 240 ≤ a.toNat ∧ a.toNat < 248) : (encodeRune (((((a.toNat - 240) * 64 + b.toNat % 64) * 64 + c.toNat % 64) * 64 + d.toNat % 64 : Nat) : Int) = [a, b, c, d]) ↔
    (b.toNat / 64 = 2 ∧ c.toNat / 64 = 2 ∧ d.toNat / 64 = 2 ∧ 65536 ≤ (((a.toNat - 240) * 64 + b.toNat % 64) * 64 + c.toNat % 64) * 64 + d.toNat % 64 ∧ (((a.toNat - 240) * 64 + b.toNat % 64) * 64 + c.toNat % 64) * 64 + d.toNat % 64 ≤ 1114111) := by
  have hb := b.toNat_lt
  have hc := c.toNat_lt
  have hd := d.toNat_lt
  generalize hv : (((a.toNat - 240) * 64 + b.toNat % 64) * 64 + c.toNat % 64) * 64 + d.toNat % 64 = v
  by_cases h1 : v < 128
  · rw [enc1 _ h1]; simp; omega
  · by_cases h2 : v < 2048
    · rw [enc2 _ (by omega) h2]; simp; omega
    · by_cases h3 : v < 65536
      · by_cases hs : v < 55296 ∨ 57343 < v
        · rw [enc3 _ (by omega) (by omega) hs]; simp; omega
        · have hvr : vr (v : Int) = 65533 := by unfold vr; rw [if_neg (by omega)]
          rw [enc_vr, hvr, enc3 65533 (by omega) (by omega) (by omega)]; simp; omega
      · by_cases h4 : v ≤ 1114111
        · rw [enc4 _ (by omega) h4, List.cons.injEq, List.cons.injEq, List.cons.injEq, List.cons.injEq, u8_eq _ _ (by omega), u8_eq _ _ (by omega), u8_eq _ _ (by omega), u8_eq _ _ (by omega)]
          constructor
          · rintro ⟨e1, e2, e3, e4, _⟩; omega
          · rintro ⟨e1, e2, e3, e4, e5⟩; exact ⟨by omega, by omega, by omega, by omega, rfl⟩
        · have hvr : vr (v : Int) = 65533 := by unfold vr; rw [if_neg (by omega)]
          rw [enc_vr, hvr, enc3 65533 (by omega) (by omega) (by omega)]; simp; omega
end Go.Proofs.YtcpknkdnboiecaaDoor
set_option linter.unusedVariables false
namespace Go.Proofs.YtcpknkdnboiecaaDoor
open Go Go.RowKit Go.Proofs.YtcpknkdnboiecaaDoorW.PrintWords Go.Lib

theorem bad1 (n b0 b1 b2 b3 : Nat) (h : 128 ≤ b0) (h2 : ¬ (b0 / 32 = 6 ∧ 1 < n ∧ b1 / 64 = 2 ∧ 128 ≤ b0 % 32 * 64 + b1 % 64))
    (h3 : ¬ (b0 / 16 = 14 ∧ 2 < n ∧ b1 / 64 = 2 ∧ b2 / 64 = 2 ∧ 2048 ≤ b0 % 16 * 4096 + b1 % 64 * 64 + b2 % 64 ∧ (b0 % 16 * 4096 + b1 % 64 * 64 + b2 % 64 < 55296 ∨ 57344 ≤ b0 % 16 * 4096 + b1 % 64 * 64 + b2 % 64)))
    (h4 : ¬ (b0 / 8 = 30 ∧ 3 < n ∧ b1 / 64 = 2 ∧ b2 / 64 = 2 ∧ b3 / 64 = 2 ∧ 65536 ≤ b0 % 8 * 262144 + b1 % 64 * 4096 + b2 % 64 * 64 + b3 % 64 ∧ b0 % 8 * 262144 + b1 % 64 * 4096 + b2 % 64 * 64 + b3 % 64 ≤ 1114111)) :
    decodeN n b0 b1 b2 b3 = (65533, 1) := by
  rcases decodeN_shape n b0 b1 b2 b3 with ⟨c, e⟩ | ⟨c1, c2, c3, cv, e⟩ | ⟨c1, c2, c3, c4, cv, cs, e⟩ | ⟨c1, c2, c3, c4, c5, cv, cw, e⟩ | e
  · omega
  · exact absurd ⟨c1, c2, c3, cv⟩ h2
  · exact absurd ⟨c1, c2, c3, c4, cv, cs⟩ h3
  · exact absurd ⟨c1, c2, c3, c4, c5, cv, cw⟩ h4
  · exact e

theorem ref_decode_list (s : ByteArray) (a : UInt8) (t : List UInt8) (hl : s.data.toList = a :: t) (m : Nat) :
    P.driftnetref04_Decode.f (m + 11) s = some (((decodeL (a :: t)).1 : Int), ((decodeL (a :: t)).2 : Int)) := by
  have hsz : s.size = t.length + 1 := by rw [← ba_len, hl, List.length_cons]
  have ha := a.toNat_lt
  have hg : (s.data.toList.getD 0 0).toNat = a.toNat := by rw [hl]; rfl
  rw [show m + 11 = (m + 5) + 6 by omega, dec_pre s (by omega) a.toNat hg, decodeL_N, List.length_cons]
  have g0 : (a :: t).getD 0 0 = a := rfl
  rw [g0]
  have bad : ∀ x : Nat × Nat, x = (65533, 1) → some ((x.1 : Int), (x.2 : Int)) = some ((65533 : Int), (1 : Int)) := fun x e => by rw [e]; rfl
  by_cases c2 : 192 ≤ a.toNat ∧ a.toNat < 224
  · rw [if_pos c2]
    by_cases hs : s.size < 2
    · rw [dec_short s 2 hs (by omega) 4 1 m _ (by omega) (by omega), bad _ (bad1 _ _ _ _ _ (by omega) (by omega) (by omega) (by omega))]
    · obtain ⟨b, t, rfl⟩ := len2 a t (by rw [List.length_cons]; omega)
      rw [dec_step s 2 1 _ (by omega) (by omega) (by omega) (by omega), hl]
      have g1 : (a :: b :: t).getD 1 0 = b := rfl
      rw [g1, dec_fin s 2 _ (by omega) (m + 2), hl, show (a :: b :: t).take 2 = [a, b] from rfl]
      have hc := cmp2 a b c2
      by_cases h : b.toNat / 64 = 2 ∧ 128 ≤ (a.toNat - 192) * 64 + b.toNat % 64
      · rw [if_pos (hc.2 h), decN2 _ _ _ _ _ (by omega) (by simp) h.1 (by omega), show a.toNat % 32 * 64 + b.toNat % 64 = (a.toNat - 192) * 64 + b.toNat % 64 by omega]
      · rw [if_neg (fun e => h (hc.1 e)), bad _ (bad1 _ _ _ _ _ (by omega) (by omega) (by omega) (by omega))]
  · rw [if_neg c2]
    by_cases c3 : 224 ≤ a.toNat ∧ a.toNat < 240
    · rw [if_pos c3]
      by_cases hs : s.size < 3
      · rw [dec_short s 3 hs (by omega) 4 1 m _ (by omega) (by omega), bad _ (bad1 _ _ _ _ _ (by omega) (by omega) (by omega) (by omega))]
      · obtain ⟨b, c, t, rfl⟩ := len3 a t (by rw [List.length_cons]; omega)
        rw [dec_step s 3 1 _ (by omega) (by omega) (by omega) (by omega), hl]
        have g1 : (a :: b :: c :: t).getD 1 0 = b := rfl
        have g2 : (a :: b :: c :: t).getD 2 0 = c := rfl
        have hb := b.toNat_lt
        rw [g1, dec_step s 3 2 _ (by omega) (by omega) (by omega) (by omega), hl, g2, dec_fin s 3 _ (by omega) (m + 1), hl, show (a :: b :: c :: t).take 3 = [a, b, c] from rfl]
        have hc := cmp3 a b c c3
        by_cases h : b.toNat / 64 = 2 ∧ c.toNat / 64 = 2 ∧ 2048 ≤ ((a.toNat - 224) * 64 + b.toNat % 64) * 64 + c.toNat % 64 ∧ (((a.toNat - 224) * 64 + b.toNat % 64) * 64 + c.toNat % 64 < 55296 ∨ 57343 < ((a.toNat - 224) * 64 + b.toNat % 64) * 64 + c.toNat % 64)
        · rw [if_pos (hc.2 h), decN3 _ _ _ _ _ (by omega) (by simp) h.1 h.2.1 (by omega) (by omega), show a.toNat % 16 * 4096 + b.toNat % 64 * 64 + c.toNat % 64 = ((a.toNat - 224) * 64 + b.toNat % 64) * 64 + c.toNat % 64 by omega]
        · rw [if_neg (fun e => h (hc.1 e)), bad _ (bad1 _ _ _ _ _ (by omega) (by omega) (by omega) (by omega))]
    · rw [if_neg c3]
      by_cases c4 : 240 ≤ a.toNat ∧ a.toNat < 248
      · rw [if_pos c4]
        by_cases hs : s.size < 4
        · rw [dec_short s 4 hs (by omega) 4 1 m _ (by omega) (by omega), bad _ (bad1 _ _ _ _ _ (by omega) (by omega) (by omega) (by omega))]
        · obtain ⟨b, c, d, t, rfl⟩ := len4 a t (by rw [List.length_cons]; omega)
          rw [dec_step s 4 1 _ (by omega) (by omega) (by omega) (by omega), hl]
          have g1 : (a :: b :: c :: d :: t).getD 1 0 = b := rfl
          have g2 : (a :: b :: c :: d :: t).getD 2 0 = c := rfl
          have g3 : (a :: b :: c :: d :: t).getD 3 0 = d := rfl
          have hb := b.toNat_lt
          have hcc := c.toNat_lt
          rw [g1, dec_step s 4 2 _ (by omega) (by omega) (by omega) (by omega), hl, g2, dec_step s 4 3 _ (by omega) (by omega) (by omega) (by omega), hl, g3, dec_fin s 4 _ (by omega) m, hl, show (a :: b :: c :: d :: t).take 4 = [a, b, c, d] from rfl]
          have hc := cmp4 a b c d c4
          by_cases h : b.toNat / 64 = 2 ∧ c.toNat / 64 = 2 ∧ d.toNat / 64 = 2 ∧ 65536 ≤ (((a.toNat - 240) * 64 + b.toNat % 64) * 64 + c.toNat % 64) * 64 + d.toNat % 64 ∧ (((a.toNat - 240) * 64 + b.toNat % 64) * 64 + c.toNat % 64) * 64 + d.toNat % 64 ≤ 1114111
          · rw [if_pos (hc.2 h), decN4 _ _ _ _ _ (by omega) (by simp) h.1 h.2.1 h.2.2.1 (by omega) (by omega), show a.toNat % 8 * 262144 + b.toNat % 64 * 4096 + c.toNat % 64 * 64 + d.toNat % 64 = (((a.toNat - 240) * 64 + b.toNat % 64) * 64 + c.toNat % 64) * 64 + d.toNat % 64 by omega]
          · rw [if_neg (fun e => h (hc.1 e)), bad _ (bad1 _ _ _ _ _ (by omega) (by omega) (by omega) (by omega))]
      · rw [if_neg c4, dec_fin s 1 _ (by omega) (m + 3), hl, show (a :: t).take 1 = [a] from rfl]
        have hc := cmp1 a
        by_cases h : a.toNat < 128
        · rw [if_pos (hc.2 h), decodeN_ascii _ _ _ _ _ h]
        · rw [if_neg (fun e => h (hc.1 e)), bad _ (bad1 _ _ _ _ _ (by omega) (by omega) (by omega) (by omega))]
theorem ref_decode (s : ByteArray) (h : s.size ≠ 0) (m : Nat) : P.driftnetref04_Decode.f (m + 11) s = some (((decodeGo s).1 : Int), ((decodeGo s).2 : Int)) := by
  cases hl : s.data.toList with
  | nil => have := ba_len s; rw [hl] at this; exact absurd this.symm h
  | cons a t =>
    have hd : decodeGo s = decodeL (a :: t) := by
      have e : s = ⟨(a :: t).toArray⟩ := ba_ext hl
      rw [e]; exact decodeGo_list _ (by simp)
    rw [hd]
    exact ref_decode_list s a t hl m
end Go.Proofs.YtcpknkdnboiecaaDoor
set_option linter.unusedVariables false
namespace Go.Proofs.YtcpknkdnboiecaaDoor
open Go Go.RowKit Go.Proofs.YtcpknkdnboiecaaDoorW.PrintWords Go.Proofs.YtcpknkdnboiecaaDoorW.PrintMore Go.Lib

namespace Q
theorem kind_inv {r : Int} {l : List UInt8} (h : Kind r l) : (∃ c : UInt8, c.toNat < 128 ∧ r = c.toNat ∧ l = [c]) ∨ (128 ≤ r ∧ r ≤ 1114111 ∧ l = encodeRune r ∧ 2 ≤ l.length ∧ l.length ≤ 4 ∧ ∀ c ∈ l, 128 ≤ c.toNat) ∨ (∃ c : UInt8, 128 ≤ c.toNat ∧ r = 65533 ∧ l = [c]) := by
  cases h with
  | ascii c h => exact .inl ⟨c, h, rfl, rfl⟩
  | multi r l h1 h2 hs he hb hl => exact .inr (.inl ⟨by omega, by omega, he, hl.1, hl.2, hb⟩)
  | bad c h => exact .inr (.inr ⟨c, h, rfl, rfl⟩)
theorem toList_ne {s : ByteArray} (h : s.size ≠ 0) : ¬ s.toList = ([] : List UInt8) := fun e => by
  rw [ByteArray.toList_eq] at e
  have := ba_len s
  rw [e] at this
  exact h this.symm
theorem toList_nil {s : ByteArray} (h : s.size = 0) : s.toList = ([] : List UInt8) := by
  rw [ByteArray.toList_eq]
  exact List.eq_nil_of_length_eq_zero (by rw [ba_len, h])
theorem size_append (a b : ByteArray) : (a ++ b).size = a.size + b.size := by simp
theorem data_append (a b : ByteArray) : (a ++ b).data.toList = a.data.toList ++ b.data.toList := by rw [ByteArray.data_append, Array.toList_append]
theorem bt_head (s : ByteArray) (c : UInt8) (t : List UInt8) (h : s.data.toList = c :: t) : bt s 0 = c.toNat := by
  have : s = ⟨(c :: t).toArray⟩ := ba_ext h
  rw [this]; exact bt_zero c t
end Q
open Q
theorem dig_at : ∀ d : Fin 16, (⟨#[48, 49, 50, 51, 52, 53, 54, 55, 56, 57, 97, 98, 99, 100, 101, 102]⟩ : ByteArray).extract d.val (d.val + 1) = ⟨#[hexByte d.val]⟩ := by decide +kernel
theorem dig_get (d : Nat) (h : d < 16) : (⟨#[48, 49, 50, 51, 52, 53, 54, 55, 56, 57, 97, 98, 99, 100, 101, 102]⟩ : ByteArray).extract d (d + 1) = ⟨#[hexByte d]⟩ := dig_at ⟨d, h⟩
theorem lit_size (l : List UInt8) : (⟨l.toArray⟩ : ByteArray).size = l.length := rfl

theorem qp_len5 {x : Int × ByteArray} (h : Kind x.1 x.2.data.toList) : (qp x.1 x.2.data.toList).length ≤ 5 * x.2.data.toList.length := by
  have hp : 1 ≤ x.2.data.toList.length := by
    rcases Q.kind_inv h with ⟨c, _, _, e⟩ | ⟨_, _, _, e, _, _⟩ | ⟨c, _, _, e⟩
    · rw [e]; exact Nat.le_refl 1
    · omega
    · rw [e]; exact Nat.le_refl 1
  unfold qp
  repeat' split
  all_goals (try simp only [List.length_cons, List.length_nil])
  all_goals omega

set_option maxHeartbeats 2000000 in
theorem ref_quote_loop : ∀ (m : Nat) (s out : ByteArray) (k : Nat), s.size ≤ m → 2 * m + 13 ≤ k → out.size + 5 * s.size ≤ 1000000 →
    P.driftnetref04_Quote.l0 k s out = some ⟨(out.data.toList ++ (piecesOf s).flatMap quotePiece ++ [34]).toArray⟩ := by
  intro m
  induction m with
  | zero =>
    intro s out k hm hk ho
    obtain ⟨k, rfl⟩ : ∃ k', k = k' + 1 := ⟨k - 1, by omega⟩
    rw [P.driftnetref04_Quote.l0, if_pos (Q.toList_nil (by omega)), if_pos (by omega), piecesOf_nil s (by omega)]
    congr 1
    refine ba_ext ?_
    rw [data_append]; simp
  | succ m ih =>
    intro s out k hm hk ho
    obtain ⟨k, rfl⟩ : ∃ k', k = k' + 2 := ⟨k - 2, by omega⟩
    by_cases h0 : s.size = 0
    · rw [P.driftnetref04_Quote.l0, if_pos (Q.toList_nil (by omega)), if_pos (by omega), piecesOf_nil s (by omega)]
      congr 1
      refine ba_ext ?_
      rw [data_append]; simp
    · have hb := decodeGo_bounds s h0
      have hk2 := kinds s ((decodeGo s).1, s.extract 0 (decodeGo s).2) (by rw [piecesOf_cons s h0]; simp)
      have hlen : (s.extract 0 (decodeGo s).2).data.toList.length = (decodeGo s).2 := by rw [ba_len, ByteArray.size_extract]; omega
      have hsplit : (s.extract 0 (decodeGo s).2).data.toList ++ (s.extract (decodeGo s).2 s.size).data.toList = s.data.toList := by
        rw [ba_extract, ba_extract, List.drop_zero, List.take_of_length_le (show s.data.toList.length ≤ s.size by rw [ba_len]; exact Nat.le_refl _), List.take_append_drop]
      have hxs : (s.extract (decodeGo s).2 s.size).size = s.size - (decodeGo s).2 := by rw [ByteArray.size_extract]; omega
      have hdf := ref_decode s h0 (k + 1 - 11)
      rw [show k + 1 - 11 + 11 = k + 1 by omega] at hdf
      rw [piecesOf_cons s h0, List.flatMap_cons, quotePiece_qp, P.driftnetref04_Quote.l0, if_neg (toList_ne h0), hdf, Option.bind_some, if_pos (by omega)]
      simp only
      generalize (decodeGo s).1 = r at *
      generalize (decodeGo s).2 = w at *
      have next : ∀ (b : ByteArray), b.data.toList = qp (r : Int) (s.extract 0 w).data.toList → P.driftnetref04_Quote.l0 k (s.extract w s.size) (out ++ b) = some ⟨(out.data.toList ++ (qp (r : Int) (s.extract 0 w).data.toList ++ (piecesOf (s.extract w s.size)).flatMap quotePiece) ++ [34]).toArray⟩ := by
        intro b hbd
        have hl := (qp_len5 hk2)
        rw [ih (s.extract w s.size) (out ++ b) k (by omega) (by omega) (by
          rw [size_append]
          have : b.size = (qp (r : Int) (s.extract 0 w).data.toList).length := by rw [← ba_len, hbd]
          simp only at hl
          omega), data_append, hbd, List.append_assoc, List.append_assoc, List.append_assoc, List.append_assoc]
      have l1 : ∀ x : UInt8, (⟨#[x]⟩ : ByteArray).size = 1 := fun _ => rfl
      have l2 : ∀ x y : UInt8, (⟨#[x, y]⟩ : ByteArray).size = 2 := fun _ _ => rfl
      have hx1 : (s.extract 0 1).size = 1 := by rw [ByteArray.size_extract]; omega
      rcases Q.kind_inv hk2 with ⟨c, hc, er, el⟩ | ⟨h1, h2, el, hl2, hl4, hhb⟩ | ⟨c, hc, er, el⟩
      · dsimp only at er el
        rw [el] at hlen
        obtain rfl : w = 1 := by simpa using hlen.symm
        rw [el] at hsplit
        have hbt := Q.bt_head s c _ hsplit.symm
        have hcl := c.toNat_lt
        have hd : (Int.tdiv (c.toNat : Int) 16) % 256 = ((c.toNat / 16 : Nat) : Int) := by rw [Int.tdiv_eq_ediv_of_nonneg (by omega)]; omega
        have hd1 : (((c.toNat / 16 : Nat) : Int) + 1) % 256 = ((c.toNat / 16 + 1 : Nat) : Int) := by omega
        have he : Int.tmod (c.toNat : Int) 16 = ((c.toNat % 16 : Nat) : Int) := by rw [Int.tmod_eq_emod_of_nonneg (by omega)]; omega
        have he1 : (((c.toNat % 16 : Nat) : Int) + 1) % 256 = ((c.toNat % 16 + 1 : Nat) : Int) := by omega
        rw [hbt]
        have j1t : ∀ b : Bool, b = true → (c.toNat = 34 ∨ c.toNat = 92) → P.driftnetref04_Quote.j1 (k + 1) s out (r : Int) ((1 : Nat) : Int) (c.toNat : Int) b = some ⟨(out.data.toList ++ (qp (r : Int) (s.extract 0 1).data.toList ++ (piecesOf (s.extract 1 s.size)).flatMap quotePiece) ++ [34]).toArray⟩ := fun b hb2 hcc => by
          subst hb2
          rw [P.driftnetref04_Quote.j1, if_pos rfl, if_pos (by omega), if_pos (by omega), if_pos (by omega), if_pos (by simp only [Q.size_append, l1]; omega), if_pos (by omega), if_pos (by omega), Int.toNat_natCast, ByteArray.append_assoc]
          refine next _ ?_
          rw [Q.data_append, el]
          unfold qp
          rcases hcc with h | h
          · rw [if_pos (by omega)]; rfl
          · rw [if_neg (by omega), if_pos (by omega)]; rfl
        by_cases c34 : c.toNat = 34
        · rw [if_pos (by omega)]; exact j1t true rfl (.inl c34)
        · rw [if_neg (by omega)]
          by_cases c92 : c.toNat = 92
          · exact j1t _ (beq_iff_eq.2 (by omega)) (.inr c92)
          · rw [show ((c.toNat : Int) == 92) = false from beq_eq_false_iff_ne.2 (by omega), P.driftnetref04_Quote.j1, if_neg (by decide)]
            by_cases c10 : c.toNat = 10
            · have hqx : qp (r : Int) [c] = [92, 110] := by unfold qp; rw [if_neg (by omega), if_neg (by omega), if_pos (by omega)]
              rw [if_pos (by omega), if_pos (by omega), if_pos (by omega), if_pos (by omega), Int.toNat_natCast]
              exact next _ (by rw [el, hqx])
            · rw [if_neg (by omega)]
              by_cases c13 : c.toNat = 13
              · have hqx : qp (r : Int) [c] = [92, 114] := by unfold qp; rw [if_neg (by omega), if_neg (by omega), if_neg (by omega), if_pos (by omega)]
                rw [if_pos (by omega), if_pos (by omega), if_pos (by omega), if_pos (by omega), Int.toNat_natCast]
                exact next _ (by rw [el, hqx])
              · rw [if_neg (by omega)]
                by_cases c9 : c.toNat = 9
                · have hqx : qp (r : Int) [c] = [92, 116] := by unfold qp; rw [if_neg (by omega), if_neg (by omega), if_neg (by omega), if_neg (by omega), if_pos (by omega)]
                  rw [if_pos (by omega), if_pos (by omega), if_pos (by omega), if_pos (by omega), Int.toNat_natCast]
                  exact next _ (by rw [el, hqx])
                · rw [if_neg (by omega)]
                  by_cases c32 : c.toNat < 32
                  · have hqx : qp (r : Int) [c] = [92, 120, hexByte (c.toNat / 16), hexByte (c.toNat % 16)] := by unfold qp; rw [if_neg (by omega), if_neg (by omega), if_neg (by omega), if_neg (by omega), if_neg (by omega), if_pos (by omega)]; rfl
                    rw [if_pos (by omega)]
                    rw [if_pos (by omega), hd, if_pos (by omega), hd1, if_pos (by omega), if_pos (by omega), Int.toNat_natCast, Int.toNat_natCast, dig_get _ (by omega), if_pos (by simp only [Q.size_append, l2, l1]; omega), he, if_pos (by omega), he1, if_pos (by omega), if_pos (by omega), Int.toNat_natCast, Int.toNat_natCast, dig_get _ (by omega), if_pos (by simp only [Q.size_append, l2, l1]; omega), if_pos (by omega), if_pos (by omega), Int.toNat_natCast, ByteArray.append_assoc, ByteArray.append_assoc]
                    refine next _ ?_
                    rw [Q.data_append, Q.data_append, el, hqx]
                    rfl
                  · rw [if_neg (by omega)]
                    by_cases c127 : c.toNat = 127
                    · have hqx : qp (r : Int) [c] = [92, 120, hexByte (c.toNat / 16), hexByte (c.toNat % 16)] := by unfold qp; rw [if_neg (by omega), if_neg (by omega), if_neg (by omega), if_neg (by omega), if_neg (by omega), if_pos (by omega)]; rfl
                      rw [if_pos (by omega)]
                      rw [if_pos (by omega), hd, if_pos (by omega), hd1, if_pos (by omega), if_pos (by omega), Int.toNat_natCast, Int.toNat_natCast, dig_get _ (by omega), if_pos (by simp only [Q.size_append, l2, l1]; omega), he, if_pos (by omega), he1, if_pos (by omega), if_pos (by omega), Int.toNat_natCast, Int.toNat_natCast, dig_get _ (by omega), if_pos (by simp only [Q.size_append, l2, l1]; omega), if_pos (by omega), if_pos (by omega), Int.toNat_natCast, ByteArray.append_assoc, ByteArray.append_assoc]
                      refine next _ ?_
                      rw [Q.data_append, Q.data_append, el, hqx]
                      rfl
                    · have hqx : qp (r : Int) [c] = [c] := by unfold qp; rw [if_neg (by omega), if_neg (by omega), if_neg (by omega), if_neg (by omega), if_neg (by omega), if_neg (by omega)]
                      rw [if_neg (by omega), if_neg (by omega), if_pos (by omega), if_pos (by omega), Int.toNat_natCast, if_pos (by omega)]
                      exact next _ (by rw [el, hqx])
      · dsimp only at el h1 h2
        rw [hlen] at hl2 hl4
        have hqx : qp (r : Int) (s.extract 0 w).data.toList = (s.extract 0 w).data.toList := by
          unfold qp
          rw [if_neg (by omega), if_neg (by omega), if_neg (by omega), if_neg (by omega), if_neg (by omega), if_neg (by rw [hlen]; omega)]
        obtain ⟨c, t, ec⟩ : ∃ c t, (s.extract 0 w).data.toList = c :: t := by
          cases hcl : (s.extract 0 w).data.toList with
          | nil => rw [hcl] at hlen; simp at hlen; omega
          | cons c t => exact ⟨c, t, rfl⟩
        have hc := hhb c (by simp only; rw [ec]; simp)
        rw [ec] at hsplit
        have hbt := Q.bt_head s c _ hsplit.symm
        have hxw : (s.extract 0 w).size = w := by rw [ByteArray.size_extract]; omega
        rw [hbt, if_neg (by omega), show ((c.toNat : Int) == 92) = false from beq_eq_false_iff_ne.2 (by omega), P.driftnetref04_Quote.j1, if_neg (by decide), if_neg (by omega), if_neg (by omega), if_neg (by omega), if_neg (by omega), if_neg (by omega)]
        have hfin : (if (0 : Int) ≤ (w : Int) then (if (w : Int) ≤ (s.size : Int) then (if out.size + (s.extract 0 ((w : Int)).toNat).size ≤ 9223372036854775807 then (P.driftnetref04_Quote.l0 k (s.extract ((w : Int)).toNat s.size) (out ++ (s.extract 0 ((w : Int)).toNat))) else (none)) else (none)) else (none)) = some ⟨(out.data.toList ++ (qp (r : Int) (s.extract 0 w).data.toList ++ (piecesOf (s.extract w s.size)).flatMap quotePiece) ++ [34]).toArray⟩ := by
          rw [if_pos (by omega), if_pos (by omega), Int.toNat_natCast, if_pos (by omega)]
          exact next _ hqx.symm
        rw [hfin]
        by_cases c6 : (r : Int) = 65533
        · rw [if_pos c6, if_neg (by omega)]
        · rw [if_neg c6]
      · dsimp only at er el
        rw [el] at hlen
        obtain rfl : w = 1 := by simpa using hlen.symm
        rw [el] at hsplit
        have hbt := Q.bt_head s c _ hsplit.symm
        have hcl := c.toNat_lt
        have hd : (Int.tdiv (c.toNat : Int) 16) % 256 = ((c.toNat / 16 : Nat) : Int) := by rw [Int.tdiv_eq_ediv_of_nonneg (by omega)]; omega
        have hd1 : (((c.toNat / 16 : Nat) : Int) + 1) % 256 = ((c.toNat / 16 + 1 : Nat) : Int) := by omega
        have he : Int.tmod (c.toNat : Int) 16 = ((c.toNat % 16 : Nat) : Int) := by rw [Int.tmod_eq_emod_of_nonneg (by omega)]; omega
        have he1 : (((c.toNat % 16 : Nat) : Int) + 1) % 256 = ((c.toNat % 16 + 1 : Nat) : Int) := by omega
        have hqx : qp (r : Int) [c] = [92, 120, hexByte (c.toNat / 16), hexByte (c.toNat % 16)] := by unfold qp; rw [if_neg (by omega), if_neg (by omega), if_neg (by omega), if_neg (by omega), if_neg (by omega), if_pos (Or.inr (Or.inr ⟨er, rfl⟩))]; rfl
        rw [hbt, if_neg (by omega), show ((c.toNat : Int) == 92) = false from beq_eq_false_iff_ne.2 (by omega), P.driftnetref04_Quote.j1, if_neg (by decide), if_neg (by omega), if_neg (by omega), if_neg (by omega), if_neg (by omega), if_neg (by omega), if_pos (by omega), if_pos (by omega)]
        rw [if_pos (by omega), hd, if_pos (by omega), hd1, if_pos (by omega), if_pos (by omega), Int.toNat_natCast, Int.toNat_natCast, dig_get _ (by omega), if_pos (by simp only [Q.size_append, l2, l1]; omega), he, if_pos (by omega), he1, if_pos (by omega), if_pos (by omega), Int.toNat_natCast, Int.toNat_natCast, dig_get _ (by omega), if_pos (by simp only [Q.size_append, l2, l1]; omega), if_pos (by omega), if_pos (by omega), Int.toNat_natCast, ByteArray.append_assoc, ByteArray.append_assoc]
        refine next _ ?_
        rw [Q.data_append, Q.data_append, el, hqx]
        rfl
theorem ref_quote (s : ByteArray) (hs : s.size ≤ 2000) (k : Nat) (hk : 4013 ≤ k) : P.driftnetref04_Quote.f k s = some ⟨(quoteBytes s).toArray⟩ := by
  unfold P.driftnetref04_Quote.f
  exact ref_quote_loop 2000 s ⟨#[34]⟩ k hs (by omega) (by show 1 + _ ≤ _; omega)
end Go.Proofs.YtcpknkdnboiecaaDoor
set_option linter.unusedVariables false
namespace Go.Proofs.YtcpknkdnboiecaaDoor
open Go Go.RowKit Go.Proofs.YtcpknkdnboiecaaDoorW.PrintWords Go.Proofs.YtcpknkdnboiecaaDoorW.PrintLast Go.Proofs.YtcpknkdnboiecaaDoorW.PrintMore Go.Lib

set_option maxRecDepth 100000 in
theorem digit17 : ∀ c : Fin 256, P.driftnetref04_digit.f 17 (c.val : Int) = some (if hexDig c.val < 16 then (hexDig c.val : Int) else -1) := by decide +kernel
theorem digit_f (c : UInt8) (d : Nat) : P.driftnetref04_digit.f (17 + d) (c.toNat : Int) = some (if hexDig c.toNat < 16 then (hexDig c.toNat : Int) else -1) := by
  induction d with
  | zero => exact digit17 ⟨c.toNat, c.toNat_lt⟩
  | succ d ih => exact P.driftnetref04_digit.mono (c.toNat : Int) (17 + d) _ ih

theorem allHex_take (l : List UInt8) (i : Nat) (h : i < l.length) : allHex (l.take (i + 1)) = (allHex (l.take i) && decide (hexDig (l[i]'h).toNat < 16)) := by
  unfold allHex
  rw [List.take_succ_eq_append_getElem h, List.all_append]
  simp
theorem hexVal_take (l : List UInt8) (i : Nat) (h : i < l.length) : hexVal (l.take (i + 1)) = hexVal (l.take i) * 16 + hexDig (l[i]'h).toNat := by
  rw [List.take_succ_eq_append_getElem h, hexVal_snoc]
theorem allHex_mono (l : List UInt8) (i n : Nat) (h : i ≤ n) (hn : allHex (l.take n) = true) : allHex (l.take i) = true := by
  unfold allHex at *
  rw [List.all_eq_true] at *
  intro x hx
  exact hn x (List.mem_of_mem_take (by rw [List.take_take, Nat.min_eq_left h]; exact hx))

theorem hex_num (H D H2 : Nat) (h : H < 268435456) (hD : D < 16) (e : H2 = H * 16 + D) : wrap64 (wrap64 ((H : Int) * 16) + (D : Int)) = (H2 : Int) := by
  subst e; unfold wrap64; omega
theorem hex_bound (l : List UInt8) (i : Nat) (hi : i < 8) (ha : allHex (l.take i) = true) : hexVal (l.take i) < 268435456 := by
  have hv := hexVal_lt (l.take i) (fun c hc => of_decide_eq_true (List.all_eq_true.1 ha c hc))
  have hl : (l.take i).length ≤ 7 := by rw [List.length_take]; omega
  exact Nat.lt_of_lt_of_le hv (Nat.pow_le_pow_right (n := 16) (j := 7) (by decide) hl)
theorem hex_loop (s : ByteArray) (n : Nat) (hn : n ≤ 8) : ∀ (d i k : Nat), n - i = d → i ≤ n → i ≤ s.size → 18 + d ≤ k → allHex (s.data.toList.take i) = true →
    P.driftnetref04_hex.l0 k s (n : Int) (hexVal (s.data.toList.take i) : Int) (i : Int) =
      if n ≤ s.size ∧ allHex (s.data.toList.take n) = true then some ((hexVal (s.data.toList.take n) : Int), true) else some (0, false) := by
  intro d
  induction d with
  | zero =>
    intro i k hd hi hs hk ha
    obtain ⟨k, rfl⟩ : ∃ k', k = k' + 1 := ⟨k - 1, by omega⟩
    obtain rfl : i = n := by omega
    rw [P.driftnetref04_hex.l0, if_neg (by omega), if_pos ⟨hs, ha⟩]
  | succ d ih =>
    intro i k hd hi hs hk ha
    obtain ⟨k, rfl⟩ : ∃ k', k = (17 + k') + 1 := ⟨k - 18, by omega⟩
    rw [P.driftnetref04_hex.l0, if_pos (by omega)]
    by_cases h : i < s.size
    · have hl : i < s.data.toList.length := by rw [ba_len]; exact h
      have hb : bt s (i : Int) = ((s.data.toList[i]'hl).toNat : Int) := by
        rw [bt_nat, List.getD, List.getElem?_eq_getElem hl]; rfl
      have hv7 := hex_bound s.data.toList i (by omega) ha
      have hat := allHex_take s.data.toList i hl
      have hvt := hexVal_take s.data.toList i hl
      rw [if_neg (by omega), if_pos (by omega), if_pos (by omega), hb, digit_f, Option.bind_some]
      by_cases hx : hexDig (s.data.toList[i]'hl).toNat < 16
      · rw [if_pos hx, if_neg (by omega), Option.bind_some]
        have hw : wrap64 (wrap64 ((hexVal (s.data.toList.take i) : Int) * 16) + (hexDig (s.data.toList[i]'hl).toNat : Int)) = (hexVal (s.data.toList.take (i + 1)) : Int) := by
          exact hex_num _ _ _ hv7 hx hvt
        rw [hw, show wrap64 ((i : Int) + 1) = ((i + 1 : Nat) : Int) by unfold wrap64; omega]
        exact ih (i + 1) _ (by omega) (by omega) (by omega) (by omega) (by rw [hat, ha, decide_eq_true hx]; rfl)
      · rw [if_neg hx, if_pos (by decide), if_neg]
        rintro ⟨_, h2⟩
        have := allHex_mono _ (i + 1) n (by omega) h2
        rw [hat, decide_eq_false hx, Bool.and_false] at this
        cases this
    · rw [if_pos (by omega), if_neg (by omega)]
theorem hex_f (s : ByteArray) (n : Nat) (hn : n ≤ 8) (k : Nat) (hk : 26 ≤ k) : P.driftnetref04_hex.f k s (n : Int) =
    if n ≤ s.size ∧ allHex (s.data.toList.take n) = true then some ((hexVal (s.data.toList.take n) : Int), true) else some (0, false) :=
  hex_loop s n hn n 0 k (by omega) (by omega) (by omega) (by omega) rfl
end Go.Proofs.YtcpknkdnboiecaaDoor
set_option linter.unusedVariables false
namespace Go.Proofs.YtcpknkdnboiecaaDoor
open Go Go.RowKit Go.Proofs.YtcpknkdnboiecaaDoorW.PrintWords Go.Proofs.YtcpknkdnboiecaaDoorW.PrintLast Go.Proofs.YtcpknkdnboiecaaDoorW.PrintMore Go.Lib

def fromL : List Nat := [97, 98, 102, 110, 114, 116, 118, 92, 39, 34]
def toL : List Nat := [7, 8, 12, 10, 13, 9, 11, 92, 39, 34]
theorem from_bt : ∀ i : Fin 10, bt (⟨#[97, 98, 102, 110, 114, 116, 118, 92, 39, 34]⟩ : ByteArray) (i.val : Int) = (fromL.getD i.val 0 : Nat) := by decide +kernel
theorem to_cut : ∀ i : Fin 10, (⟨#[7, 8, 12, 10, 13, 9, 11, 92, 39, 34]⟩ : ByteArray).extract i.val (i.val + 1) = ⟨#[UInt8.ofNat (toL.getD i.val 0)]⟩ := by decide +kernel

theorem piece_step (s : ByteArray) (h : s.size ≠ 0) (c : Nat) (hc : bt s 0 = (c : Int)) (i : Nat) (hi : i < 10) (k : Nat) :
    P.driftnetref04_piece.l0 (k + 1) s (⟨#[97, 98, 102, 110, 114, 116, 118, 92, 39, 34]⟩ : ByteArray) (⟨#[7, 8, 12, 10, 13, 9, 11, 92, 39, 34]⟩ : ByteArray) (i : Int) =
      if fromL.getD i 0 = c then some (⟨#[UInt8.ofNat (toL.getD i 0)]⟩, 1)
      else P.driftnetref04_piece.l0 k s (⟨#[97, 98, 102, 110, 114, 116, 118, 92, 39, 34]⟩ : ByteArray) (⟨#[7, 8, 12, 10, 13, 9, 11, 92, 39, 34]⟩ : ByteArray) ((i + 1 : Nat) : Int) := by
  have e1 : ((⟨#[97, 98, 102, 110, 114, 116, 118, 92, 39, 34]⟩ : ByteArray).size : Int) = 10 := rfl
  have e2 : ((⟨#[7, 8, 12, 10, 13, 9, 11, 92, 39, 34]⟩ : ByteArray).size : Int) = 10 := rfl
  have hw : wrap64 ((i : Int) + 1) = ((i + 1 : Nat) : Int) := by unfold wrap64; omega
  have hb := from_bt ⟨i, hi⟩
  have ht := to_cut ⟨i, hi⟩
  simp only at hb ht
  rw [P.driftnetref04_piece.l0, e1, e2, if_pos (by omega), if_pos (by omega), if_pos (by omega), hb, hc, hw]
  by_cases hf : fromL.getD i 0 = c
  · rw [if_pos (by omega), if_pos hf, if_pos (by omega), if_pos (by omega), Int.toNat_natCast, Int.toNat_natCast, ht]
  · rw [if_neg (by omega), if_neg hf]
theorem piece_last (s : ByteArray) (h : s.size ≠ 0) (c : Nat) (hc : bt s 0 = (c : Int)) (k : Nat) :
    P.driftnetref04_piece.l0 (k + 1) s (⟨#[97, 98, 102, 110, 114, 116, 118, 92, 39, 34]⟩ : ByteArray) (⟨#[7, 8, 12, 10, 13, 9, 11, 92, 39, 34]⟩ : ByteArray) ((10 : Nat) : Int) =
      P.driftnetref04_piece.j1 k s (((codOf c).getD 0 : Nat) : Int) := by
  have e1 : ((⟨#[97, 98, 102, 110, 114, 116, 118, 92, 39, 34]⟩ : ByteArray).size : Int) = 10 := rfl
  rw [P.driftnetref04_piece.l0, e1, if_neg (by omega), if_pos (by omega), hc]
  by_cases c1 : c = 120
  · subst c1; rw [if_pos (by omega)]; rfl
  · rw [if_neg (by omega)]
    by_cases c2 : c = 117
    · subst c2; rw [if_pos (by omega)]; rfl
    · rw [if_neg (by omega)]
      by_cases c3 : c = 85
      · subst c3; rw [if_pos (by omega)]; rfl
      · rw [if_neg (by omega)]
        have : codOf c = none := by unfold codOf; split <;> first | (exfalso; omega) | rfl
        rw [this]; rfl
theorem piece_f (s : ByteArray) (h : s.size ≠ 0) (c : Nat) (hc : bt s 0 = (c : Int)) (hc256 : c < 256) (k : Nat) : P.driftnetref04_piece.f (k + 11) s =
    match escOf c with
    | some b => some (⟨#[UInt8.ofNat b]⟩, 1)
    | none => P.driftnetref04_piece.j1 k s (((codOf c).getD 0 : Nat) : Int) := by
  have hne : ¬ s.toList = ([] : List UInt8) := fun e => by
    rw [ByteArray.toList_eq] at e
    have := ba_len s
    rw [e] at this
    exact h this.symm
  unfold P.driftnetref04_piece.f
  rw [if_neg hne, show (0 : Int) = ((0 : Nat) : Int) from rfl]
  rw [piece_step s h c hc 0 (by decide) (k + 10), piece_step s h c hc 1 (by decide) (k + 9), piece_step s h c hc 2 (by decide) (k + 8), piece_step s h c hc 3 (by decide) (k + 7), piece_step s h c hc 4 (by decide) (k + 6),
    piece_step s h c hc 5 (by decide) (k + 5), piece_step s h c hc 6 (by decide) (k + 4), piece_step s h c hc 7 (by decide) (k + 3), piece_step s h c hc 8 (by decide) (k + 2), piece_step s h c hc 9 (by decide) (k + 1), piece_last s h c hc k]
  simp only [fromL, toL, List.getD_cons_zero, List.getD_cons_succ]
  by_cases a0 : 97 = c
  · subst a0; rfl
  · rw [if_neg a0]
    by_cases a1 : 98 = c
    · subst a1; rfl
    · rw [if_neg a1]
      by_cases a2 : 102 = c
      · subst a2; rfl
      · rw [if_neg a2]
        by_cases a3 : 110 = c
        · subst a3; rfl
        · rw [if_neg a3]
          by_cases a4 : 114 = c
          · subst a4; rfl
          · rw [if_neg a4]
            by_cases a5 : 116 = c
            · subst a5; rfl
            · rw [if_neg a5]
              by_cases a6 : 118 = c
              · subst a6; rfl
              · rw [if_neg a6]
                by_cases a7 : 92 = c
                · subst a7; rfl
                · rw [if_neg a7]
                  by_cases a8 : 39 = c
                  · subst a8; rfl
                  · rw [if_neg a8]
                    by_cases a9 : 34 = c
                    · subst a9; rfl
                    · rw [if_neg a9]
                      have hn : escOf c = none := by unfold escOf; split <;> first | (exfalso; omega) | rfl
                      rw [hn]
end Go.Proofs.YtcpknkdnboiecaaDoor
set_option linter.unusedVariables false
namespace Go.Proofs.YtcpknkdnboiecaaDoor
open Go Go.RowKit Go.Proofs.YtcpknkdnboiecaaDoorW.PrintWords Go.Proofs.YtcpknkdnboiecaaDoorW.PrintLast Go.Proofs.YtcpknkdnboiecaaDoorW.PrintMore Go.Lib

theorem ref_piece (c : UInt8) (t : List UInt8) (k : Nat) : P.driftnetref04_piece.f (k + 50) ⟨(c :: t).toArray⟩ =
    match escL (c :: t) with
    | none => some (⟨#[]⟩, 0)
    | some x => some (⟨x.1.toArray⟩, (((c :: t).length - x.2.length : Nat) : Int)) := by
  have hsz : (⟨(c :: t).toArray⟩ : ByteArray).size = t.length + 1 := rfl
  have hc256 := c.toNat_lt
  have hx : (⟨(c :: t).toArray⟩ : ByteArray).extract 1 (⟨(c :: t).toArray⟩ : ByteArray).size = ⟨t.toArray⟩ := by
    refine ba_ext ?_
    rw [ba_extract, hsz]; simp
  have hd : (⟨t.toArray⟩ : ByteArray).data.toList = t := rfl
  have hts : (⟨t.toArray⟩ : ByteArray).size = t.length := rfl
  rw [show k + 50 = (k + 39) + 11 by omega, piece_f _ (by omega) c.toNat (bt_zero c t) hc256, escL]
  cases he : escOf c.toNat with
  | some b =>
    simp only [List.length_cons]
    rw [show t.length + 1 - t.length = 1 by omega]
    rfl
  | none =>
    simp only
    rw [show k + 39 = (k + 38) + 1 by omega, P.driftnetref04_piece.j1, if_pos (by omega), hx]
    cases hcd : codOf c.toNat with
    | none =>
      simp only [Option.getD_none]
      rw [hex_f _ 0 (by omega) _ (by omega), if_pos ⟨by omega, rfl⟩, Option.bind_some, if_pos (by omega), show k + 38 = (k + 37) + 1 by omega, P.driftnetref04_piece.j2, if_pos rfl]
    | some n =>
      have hn := codOf_some hcd
      simp only [Option.getD_some]
      rw [hex_f _ n (by omega) _ (by omega), hd, hts]
      by_cases hl : t.length < n
      · rw [if_neg (by rintro ⟨h, _⟩; omega), if_pos hl, Option.bind_some, if_neg (by omega), show k + 38 = (k + 37) + 1 by omega, P.driftnetref04_piece.j2, if_pos (show (!false) = true from rfl)]
      · rw [if_neg hl]
        by_cases hh : allHex (t.take n) = true
        · have hb : hexVal (t.take n) < 16 ^ 8 := by
            have hv := hexVal_lt (t.take n) (fun c hc => of_decide_eq_true (List.all_eq_true.1 hh c hc))
            exact Nat.lt_of_lt_of_le hv (Nat.pow_le_pow_right (n := 16) (j := 8) (by decide) (by rw [List.length_take]; omega))
          have hb2 : n = 2 → hexVal (t.take n) < 256 := fun e => by
            have hv := hexVal_lt (t.take n) (fun c hc => of_decide_eq_true (List.all_eq_true.1 hh c hc))
            exact Nat.lt_of_lt_of_le hv (Nat.pow_le_pow_right (n := 16) (j := 2) (by decide) (by rw [List.length_take]; omega))
          have hb3 : hexVal (t.take n) < 4294967296 := hb
          clear hb
          rw [if_pos ⟨by omega, hh⟩, if_pos hh, Option.bind_some, if_neg (by omega), show k + 38 = (k + 37) + 1 by omega, P.driftnetref04_piece.j2, if_neg (show ¬ (!true) = true by decide)]
          have hcnt : (c :: t).length - (t.drop n).length = 1 + n := by rw [List.length_cons, List.length_drop]; omega
          generalize hexVal (t.take n) = x at *
          by_cases h2 : n = 2
          · have h256 := hb2 h2
            rw [if_pos (by omega), if_pos h2]
            simp only
            rw [hcnt, h2, strOf_eq _ [x.toUInt8] (by simp only [List.map_cons, List.map_nil]; rw [ofNat_toNat _ x (by omega)])]
            rfl
          · rw [if_neg (by omega), if_neg h2]
            by_cases hbig : 1114111 < x
            · have : validN x = false := by unfold validN; exact decide_eq_false (by omega)
              rw [if_pos (by omega), this]; rfl
            · have hw : wrap32 (x : Int) = (x : Int) := by unfold wrap32; omega
              have hv : validN x = decide ((0 : Int) ≤ x ∧ (x : Int) ≤ 1114111 ∧ ((x : Int) < 55296 ∨ 57343 < (x : Int))) := by
                unfold validN; rw [Bool.eq_iff_iff, decide_eq_true_iff, decide_eq_true_iff]; omega
              rw [if_neg (by omega), hw, isRune_f, Option.bind_some, ← hv]
              cases hvx : validN x with
              | false => rw [if_neg (by decide), if_neg (by decide)]
              | true =>
                rw [if_pos rfl, if_pos rfl, show k + 37 = (k + 36) + 1 by omega, ref_encode, Option.bind_some]
                simp only
                rw [hcnt, show wrap64 (1 + (n : Int)) = ((1 + n : Nat) : Int) by unfold wrap64; omega]
        · rw [if_neg (by rintro ⟨_, h⟩; exact hh h), if_neg hh, Option.bind_some, if_neg (by omega), show k + 38 = (k + 37) + 1 by omega, P.driftnetref04_piece.j2, if_pos (show (!false) = true from rfl)]
end Go.Proofs.YtcpknkdnboiecaaDoor
set_option linter.unusedVariables false
namespace Go.Proofs.YtcpknkdnboiecaaDoor
open Go Go.RowKit Go.Proofs.YtcpknkdnboiecaaDoorW.PrintWords Go.Proofs.YtcpknkdnboiecaaDoorW.PrintLast Go.Proofs.YtcpknkdnboiecaaDoorW.PrintMore Go.Lib

theorem escL_drop {t u r : List UInt8} (h : escL t = some (u, r)) : r = t.drop (t.length - r.length) ∧ u.length ≤ 4 := by
  unfold escL at h
  split at h
  · cases h
  · rename_i c t'
    have one : ∀ n, n ≤ t'.length → t'.drop n = (c :: t').drop ((c :: t').length - (t'.drop n).length) := fun n hn => by
      rw [List.length_cons, List.length_drop, show t'.length + 1 - (t'.length - n) = n + 1 by omega]; rfl
    split at h
    · cases h
      exact ⟨one 0 (by omega), by simp⟩
    · split at h
      · cases h
      · rename_i n _
        split at h
        · cases h
        · rename_i hn
          split at h
          · split at h
            · cases h
              exact ⟨one n (by omega), by simp⟩
            · split at h
              · cases h
                refine ⟨one n (by omega), ?_⟩
                have hb := runeCells_le ((hexVal (t'.take n) : Nat) : Int)
                rw [runeCells_length] at hb
                exact hb.2
              · cases h
          · cases h

theorem list_ne {c : UInt8} {t : List UInt8} : ¬ (⟨(c :: t).toArray⟩ : ByteArray).toList = ([] : List UInt8) := by
  rw [ByteArray.toList_eq]; exact List.cons_ne_nil _ _

theorem piece_nil (k : Nat) : P.driftnetref04_piece.f k ⟨([] : List UInt8).toArray⟩ = some (⟨#[]⟩, 0) := by
  unfold P.driftnetref04_piece.f
  rw [if_pos (by rw [ByteArray.toList_eq])]

theorem cnt_ne (L r m : Nat) (h : r < L) (hd : L - r = m) : ¬ ((m : Int) = 0) := by omega
theorem cnt_wrap (L r m : Nat) (hd : L - r = m) (hL : L ≤ 100000) : wrap64 (1 + (m : Int)) = ((1 + m : Nat) : Int) := by unfold wrap64; omega
theorem cnt_nonneg (m : Nat) : (0 : Int) ≤ ((1 + m : Nat) : Int) := by omega
theorem cnt_le (L r m z : Nat) (hd : L - r = m) (hz : z = L + 1) : ((1 + m : Nat) : Int) ≤ (z : Int) := by omega
theorem cnt_out (o u L : Nat) (h : o + 4 * (L + 1) ≤ 1000000) (hu : u ≤ 4) : o + u ≤ 9223372036854775807 := by omega
theorem cnt_next (o u L r : Nat) (h : o + 4 * (L + 1) ≤ 1000000) (hu : u ≤ 4) (hr : r < L) : o + u + 4 * r ≤ 1000000 := by omega
set_option maxHeartbeats 1000000 in
theorem ref_unq_loop (dq : Bool) : ∀ (n : Nat) (l : List UInt8) (out : ByteArray) (k : Nat), l.length ≤ n → n ≤ 100000 → out.size + 4 * l.length ≤ 1000000 → 3 * n + 60 ≤ k →
    P.driftnetref04_Unquote.l0 k ⟨l.toArray⟩ (markOf dq : Int) out = some (P.unq2 (unq dq l out.data.toList))
  | n, [], out, k, hl, hn, ho, hk => by
    obtain ⟨k', rfl⟩ : ∃ k', k = k' + 1 := ⟨k - 1, by omega⟩
    rw [P.driftnetref04_Unquote.l0, if_pos (by rw [ByteArray.toList_eq]), unq_nil]
    rfl
  | 0, c :: t, out, k, hl, _, _, _ => by simp at hl
  | n + 1, c :: t, out, k, hl, hn, ho, hk => by
    obtain ⟨k', rfl⟩ : ∃ k', k = k' + 3 := ⟨k - 3, by omega⟩
    rw [List.length_cons] at hl ho
    have hsz : (⟨(c :: t).toArray⟩ : ByteArray).size = t.length + 1 := rfl
    have hx : (⟨(c :: t).toArray⟩ : ByteArray).extract 1 (⟨(c :: t).toArray⟩ : ByteArray).size = ⟨t.toArray⟩ := by
      refine ba_ext ?_
      rw [ba_extract, hsz]; simp
    have h0 : (⟨(c :: t).toArray⟩ : ByteArray).extract 0 1 = ⟨[c].toArray⟩ := by
      refine ba_ext ?_
      rw [ba_extract]; simp
    have hb := bt_zero c t
    have hc := c.toNat_lt
    have hm : ((c.toNat : Int) = (markOf dq : Int)) ↔ c.toNat = markOf dq := by omega
    have hmk : markOf dq = 34 ∨ markOf dq = 96 := by unfold markOf; split <;> omega
    have hdq : markOf dq = 34 ↔ dq = true := by unfold markOf; cases dq <;> simp
    have ht : k' + 3 = k' + 2 + 1 := rfl
    have plain : P.driftnetref04_Unquote.j3 (k' + 1) ⟨(c :: t).toArray⟩ (markOf dq : Int) out true = some (P.unq2 (unq dq t (out.data.toList ++ [c]))) := by
      rw [P.driftnetref04_Unquote.j3, if_pos rfl, if_pos (by omega), if_pos (by omega), h0, if_pos (by show out.size + 1 ≤ _; omega), hx, ref_unq_loop dq n t _ k' (by omega) (by omega) (by rw [Q.size_append]; show out.size + 1 + _ ≤ _; omega) (by omega), Q.data_append]
    have esc : dq = true → P.driftnetref04_Unquote.j3 (k' + 1) ⟨(c :: t).toArray⟩ (markOf dq : Int) out false = some (P.unq2 (match escL t with | none => none | some x => unq dq x.2 (out.data.toList ++ x.1))) := by
      intro _
      rw [P.driftnetref04_Unquote.j3, if_neg (by decide), if_pos (by omega), hx]
      cases t with
      | nil =>
        rw [piece_nil, Option.bind_some, if_pos rfl]
        rfl
      | cons d t' =>
        obtain ⟨k2, rfl⟩ : ∃ k2, k' = k2 + 50 := ⟨k' - 50, by omega⟩
        rw [ref_piece]
        cases hE : escL (d :: t') with
        | none =>
          simp only
          rw [Option.bind_some, if_pos rfl]
          rfl
        | some x =>
          have hlen := escL_len (u := x.1) (r := x.2) hE
          have hdr := escL_drop (u := x.1) (r := x.2) hE
          obtain ⟨u, r⟩ := x
          simp only at hlen hdr ⊢
          have hL : (d :: t').length ≤ 100000 := by omega
          have hr2 : r.length ≤ n := by omega
          have hn2 : n ≤ 100000 := by omega
          have hk2 : 3 * n + 60 ≤ k2 + 50 := by omega
          clear hk hm hmk hdq hb hc plain h0 hl hn
          have hsz' : (⟨(c :: d :: t').toArray⟩ : ByteArray).size = (d :: t').length + 1 := hsz
          generalize hd : (d :: t').length - r.length = m at hdr
          have hus : (⟨u.toArray⟩ : ByteArray).size = u.length := rfl
          have hex : (⟨(c :: d :: t').toArray⟩ : ByteArray).extract (1 + m) (⟨(c :: d :: t').toArray⟩ : ByteArray).size = ⟨r.toArray⟩ := by
            refine ba_ext ?_
            rw [ba_extract, hsz, Nat.add_comm 1 m, List.take_of_length_le (by simp)]
            show List.drop m (d :: t') = r
            exact hdr.1.symm
          rw [Option.bind_some, if_neg (cnt_ne _ _ m hlen hd), if_pos (show out.size + (⟨u.toArray⟩ : ByteArray).size ≤ 9223372036854775807 from cnt_out _ _ _ ho hdr.2), cnt_wrap _ _ m hd hL, if_pos (cnt_nonneg m), if_pos (cnt_le _ _ m _ hd hsz'), Int.toNat_natCast, hex,
            ref_unq_loop dq n r _ (k2 + 50) hr2 hn2 (by rw [Q.size_append]; exact cnt_next _ _ _ _ ho hdr.2 hlen) hk2, Q.data_append]
    rw [P.driftnetref04_Unquote.l0, if_neg list_ne, if_pos (by omega), hb, unq_cons]
    by_cases c1 : c.toNat = markOf dq
    · rw [if_pos (by omega), P.driftnetref04_Unquote.j2, if_pos rfl, if_pos (Or.inl c1)]
      rfl
    · rw [if_neg (by omega)]
      by_cases d1 : dq = true
      · have d2 := hdq.2 d1
        rw [if_pos (by omega)]
        by_cases c2 : c.toNat = 10
        · rw [show ((c.toNat : Int) == 10) = true from beq_iff_eq.2 (by omega), P.driftnetref04_Unquote.j2, if_pos rfl, if_pos (Or.inr ⟨d1, c2⟩)]
          rfl
        · rw [show ((c.toNat : Int) == 10) = false from beq_eq_false_iff_ne.2 (by omega), P.driftnetref04_Unquote.j2, if_neg (by decide), if_neg (by omega), if_neg (by rintro (h | ⟨_, h⟩) <;> omega)]
          by_cases c3 : c.toNat = 92
          · rw [show ((c.toNat : Int) != 92) = false from by rw [show (c.toNat : Int) = 92 by omega]; rfl, if_pos ⟨d1, c3⟩]
            exact esc d1
          · rw [show ((c.toNat : Int) != 92) = true from bne_iff_ne.2 (by omega), if_neg (by rintro ⟨_, h⟩; omega)]
            exact plain
      · have d2 : markOf dq = 96 := by rcases hmk with h | h; exact absurd (hdq.1 h) d1; exact h
        rw [if_neg (by omega), P.driftnetref04_Unquote.j2, if_neg (by decide), if_pos (by omega), if_neg (by rintro (h | ⟨h, _⟩); omega; exact d1 h), if_neg (by rintro ⟨h, _⟩; exact d1 h)]
        exact plain

theorem ref_unquote (s : ByteArray) (hs : s.size ≤ 2000) (k : Nat) (hk : 7000 ≤ k) : P.driftnetref04_Unquote.f k s = some (P.unq2 (unquoteP s)) := by
  obtain ⟨k', rfl⟩ : ∃ k', k = k' + 1 := ⟨k - 1, by omega⟩
  have none0 : ∀ x, P.driftnetref04_Unquote.j0 (k' + 1) x true = some (P.unq2 none) := fun x => by rw [P.driftnetref04_Unquote.j0, if_pos rfl]; rfl
  have hsl : s = ⟨s.data.toList.toArray⟩ := ba_ext rfl
  rw [hsl]
  have hl : s.data.toList.length ≤ 2000 := by rw [ba_len]; exact hs
  generalize s.data.toList = l at hl
  unfold P.driftnetref04_Unquote.f
  have hsz : (⟨l.toArray⟩ : ByteArray).size = l.length := rfl
  by_cases h2 : l.length < 2
  · rw [if_pos (by omega), none0, unquoteP_short l h2]
  · rw [if_neg (by omega)]
    obtain ⟨q, m, e, rfl⟩ : ∃ q m e, l = q :: (m ++ [e]) := by
      cases l with
      | nil => simp at h2
      | cons q t =>
        have : t ≠ [] := by rintro rfl; simp at h2
        exact ⟨q, t.dropLast, t.getLast this, by rw [List.dropLast_concat_getLast]⟩
    have hsz2 : (⟨(q :: (m ++ [e])).toArray⟩ : ByteArray).size = m.length + 2 := by show (q :: (m ++ [e])).length = _; simp
    have hw : wrap64 (((⟨(q :: (m ++ [e])).toArray⟩ : ByteArray).size : Int) - 1) = ((⟨(q :: (m ++ [e])).toArray⟩ : ByteArray).size : Int) - 1 := by
      simp only [List.length_cons, List.length_append, List.length_nil] at hl
      unfold wrap64; omega
    rw [hw, if_pos (by omega), if_pos (by omega), if_pos (by omega), bt_zero, bt_last, unquoteP_mk]
    have hin : (⟨(q :: (m ++ [e])).toArray⟩ : ByteArray).extract 1 ((((⟨(q :: (m ++ [e])).toArray⟩ : ByteArray).size : Int) - 1)).toNat = ⟨m.toArray⟩ := by
      rw [show ((((⟨(q :: (m ++ [e])).toArray⟩ : ByteArray).size : Int) - 1)).toNat = m.length + 1 by omega]
      refine ba_ext ?_
      rw [ba_extract]
      simp
    have go : ∀ dq, q.toNat = markOf dq → P.driftnetref04_Unquote.j0 (k' + 1) ⟨(q :: (m ++ [e])).toArray⟩ false = some (P.unq2 (unq dq m [])) := fun dq hq => by
      rw [P.driftnetref04_Unquote.j0, if_neg (by decide), hw, if_pos (by omega), if_pos (by omega), if_pos (by omega), hin, bt_zero, hq]
      have hl' : m.length ≤ 2000 := by simp only [List.length_cons, List.length_append, List.length_nil] at hl; omega
      exact ref_unq_loop dq 2000 m ⟨#[]⟩ k' hl' (by omega) (by show 0 + _ ≤ _; omega) (by omega)
    have hqe : ((q.toNat : Int) = e.toNat) ↔ q = e := by
      constructor
      · intro h; exact UInt8.toNat_inj.1 (by omega)
      · intro h; rw [h]
    have hq : ∀ n : Nat, n < 256 → (((q.toNat : Int) = n) ↔ q = UInt8.ofNat n) := fun n hn => by
      constructor
      · intro h
        have : q.toNat = n := by omega
        rw [← this]; simp
      · intro h; rw [h]; simp; omega
    have h34 : ((q.toNat : Int) = 34) ↔ q = 34 := hq 34 (by omega)
    have h96 : ((q.toNat : Int) = 96) ↔ q = 96 := hq 96 (by omega)
    by_cases c1 : q = e
    · rw [if_pos (hqe.2 c1), if_pos c1]
      by_cases c2 : q = 34
      · rw [if_pos (h34.2 c2), if_pos c2]
        exact go true (by rw [c2]; rfl)
      · rw [if_neg (fun h => c2 (h34.1 h)), if_neg c2]
        by_cases c3 : q = 96
        · rw [show ((q.toNat : Int) != 96) = false from by rw [h96.2 c3]; rfl, if_pos c3]
          exact go false (by rw [c3]; rfl)
        · rw [show ((q.toNat : Int) != 96) = true from bne_iff_ne.2 (fun h => c3 (h96.1 h)), if_neg c3]
          exact none0 _
    · rw [if_neg (fun h => c1 (hqe.1 h)), if_neg c1]
      exact none0 _
end Go.Proofs.YtcpknkdnboiecaaDoor
