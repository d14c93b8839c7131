/- A rune's bytes, whatever stands behind them, are decoded as that rune. No program in sight. -/
import Derived.Test.YtcpknkdnboiecaaDoorKinds
set_option linter.unusedVariables false
namespace Go.Proofs.YtcpknkdnboiecaaDoor
open Go Go.Lib

theorem decN2 (n b0 b1 b2 b3 : Nat) (h0 : b0 / 32 = 6) (hn : 1 < n) (h1 : b1 / 64 = 2) (hv : 128 ≤ b0 % 32 * 64 + b1 % 64) : decodeN n b0 b1 b2 b3 = (b0 % 32 * 64 + b1 % 64, 2) := by
  unfold decodeN
  rw [if_neg (by omega), if_pos ⟨h0, hn, h1⟩, if_pos hv]
theorem decN3 (n b0 b1 b2 b3 : Nat) (h0 : b0 / 16 = 14) (hn : 2 < n) (h1 : b1 / 64 = 2) (h2 : b2 / 64 = 2) (hv : 2048 ≤ b0 % 16 * 4096 + b1 % 64 * 64 + b2 % 64)
    (hs : b0 % 16 * 4096 + b1 % 64 * 64 + b2 % 64 < 55296 ∨ 57344 ≤ b0 % 16 * 4096 + b1 % 64 * 64 + b2 % 64) : decodeN n b0 b1 b2 b3 = (b0 % 16 * 4096 + b1 % 64 * 64 + b2 % 64, 3) := by
  unfold decodeN
  rw [if_neg (by omega), if_neg (by omega), if_pos ⟨h0, ⟨by omega, h1⟩, hn, h2⟩, if_pos ⟨hv, by omega⟩]
theorem decN4 (n b0 b1 b2 b3 : Nat) (h0 : b0 / 8 = 30) (hn : 3 < n) (h1 : b1 / 64 = 2) (h2 : b2 / 64 = 2) (h3 : b3 / 64 = 2) (hv : 65536 ≤ b0 % 8 * 262144 + b1 % 64 * 4096 + b2 % 64 * 64 + b3 % 64)
    (hm : b0 % 8 * 262144 + b1 % 64 * 4096 + b2 % 64 * 64 + b3 % 64 ≤ 1114111) : decodeN n b0 b1 b2 b3 = (b0 % 8 * 262144 + b1 % 64 * 4096 + b2 % 64 * 64 + b3 % 64, 4) := by
  unfold decodeN
  rw [if_neg (by omega), if_neg (by omega), if_neg (by omega), if_pos ⟨h0, ⟨by omega, h1⟩, ⟨by omega, h2⟩, hn, h3⟩, if_pos ⟨hv, by omega⟩]

def validR (v : Nat) : Prop := v < 55296 ∨ 57343 < v ∧ v ≤ 1114111
/-- The rune whose bytes are written for a number. -/
def vr (r : Int) : Nat := if 0 ≤ r ∧ r ≤ 1114111 ∧ (r < 55296 ∨ 57343 < r) then r.toNat else 65533
theorem vr_valid (r : Int) : validR (vr r) := by unfold vr validR; split <;> omega
theorem enc_vr (r : Int) : encodeRune r = encodeRune (vr r : Nat) := by
  unfold vr
  split
  · rw [show ((r.toNat : Nat) : Int) = r by omega]
  · have : encodeRuneZ r = [239, 191, 189] := by
      unfold encodeRuneZ
      rw [if_neg (by omega), if_neg (by omega), if_neg (by omega), if_neg (by omega)]
    unfold encodeRune
    rw [this]
    decide

theorem u8n (n : Nat) (h : n < 256) : (n.toUInt8).toNat = n := by simp [Nat.toUInt8, UInt8.toNat_ofNat']; omega
theorem enc1 (v : Nat) (h : v < 128) : encodeRune (v : Int) = [v.toUInt8] := by
  unfold encodeRune; rw [encodeRuneZ_one (by omega) (by omega)]; rfl
theorem enc2 (v : Nat) (h : 128 ≤ v) (h2 : v < 2048) : encodeRune (v : Int) = [(192 + v / 64).toUInt8, (128 + v % 64).toUInt8] := by
  unfold encodeRune; rw [encodeRuneZ_two (by omega) (by omega)]
  simp only [List.map_cons, List.map_nil]
  rw [show (192 + (v : Int) / 64).toNat = 192 + v / 64 by omega, show (128 + (v : Int) % 64).toNat = 128 + v % 64 by omega]
theorem enc3 (v : Nat) (h : 2048 ≤ v) (h2 : v < 65536) (hs : v < 55296 ∨ 57343 < v) : encodeRune (v : Int) = [(224 + v / 4096).toUInt8, (128 + v / 64 % 64).toUInt8, (128 + v % 64).toUInt8] := by
  unfold encodeRune; rw [encodeRuneZ_three (by omega)]
  simp only [List.map_cons, List.map_nil]
  rw [show (224 + (v : Int) / 4096).toNat = 224 + v / 4096 by omega, show (128 + (v : Int) / 64 % 64).toNat = 128 + v / 64 % 64 by omega, show (128 + (v : Int) % 64).toNat = 128 + v % 64 by omega]
theorem enc4 (v : Nat) (h : 65536 ≤ v) (h2 : v ≤ 1114111) : encodeRune (v : Int) = [(240 + v / 262144).toUInt8, (128 + v / 4096 % 64).toUInt8, (128 + v / 64 % 64).toUInt8, (128 + v % 64).toUInt8] := by
  unfold encodeRune; rw [encodeRuneZ_four (by omega) (by omega)]
  simp only [List.map_cons, List.map_nil]
  rw [show (240 + (v : Int) / 262144).toNat = 240 + v / 262144 by omega, show (128 + (v : Int) / 4096 % 64).toNat = 128 + v / 4096 % 64 by omega, show (128 + (v : Int) / 64 % 64).toNat = 128 + v / 64 % 64 by omega, show (128 + (v : Int) % 64).toNat = 128 + v % 64 by omega]

theorem dec_enc (v : Nat) (hv : validR v) (rest : List UInt8) : decodeL (encodeRune (v : Int) ++ rest) = (v, (encodeRune (v : Int)).length) := by
  unfold validR at hv
  rw [decodeL_N]
  by_cases c1 : v < 128
  · rw [enc1 v c1]
    have e := u8n v (by omega)
    simp only [List.cons_append, List.nil_append, List.getD_cons_zero, List.length_cons, List.length_nil]
    rw [e, decodeN_ascii _ _ _ _ _ c1]
  · by_cases c2 : v < 2048
    · rw [enc2 v (by omega) c2]
      have e0 := u8n (192 + v / 64) (by omega)
      have e1 := u8n (128 + v % 64) (by omega)
      simp only [List.cons_append, List.nil_append, List.getD_cons_zero, List.getD_cons_succ, List.length_cons, List.length_nil]
      rw [e0, e1, decN2 _ _ _ _ _ (by omega) (by omega) (by omega) (by omega)]
      congr 1
      omega
    · by_cases c3 : v < 65536
      · rw [enc3 v (by omega) c3 (by omega)]
        have e0 := u8n (224 + v / 4096) (by omega)
        have e1 := u8n (128 + v / 64 % 64) (by omega)
        have e2 := u8n (128 + v % 64) (by omega)
        simp only [List.cons_append, List.nil_append, List.getD_cons_zero, List.getD_cons_succ, List.length_cons, List.length_nil]
        rw [e0, e1, e2, decN3 _ _ _ _ _ (by omega) (by omega) (by omega) (by omega) (by omega) (by omega)]
        congr 1
        omega
      · rw [enc4 v (by omega) (by omega)]
        have e0 := u8n (240 + v / 262144) (by omega)
        have e1 := u8n (128 + v / 4096 % 64) (by omega)
        have e2 := u8n (128 + v / 64 % 64) (by omega)
        have e3 := u8n (128 + v % 64) (by omega)
        simp only [List.cons_append, List.nil_append, List.getD_cons_zero, List.getD_cons_succ, List.length_cons, List.length_nil]
        rw [e0, e1, e2, e3, decN4 _ _ _ _ _ (by omega) (by omega) (by omega) (by omega) (by omega) (by omega) (by omega)]
        congr 1
        omega

/-- The runes of a text that begins with a rune's bytes. -/
theorem pieces_head (v : Nat) (E rest : List UInt8) (h1 : 1 ≤ E.length) (hd : decodeL (E ++ rest) = (v, E.length)) : piecesOf ⟨(E ++ rest).toArray⟩ = ((v : Int), ⟨E.toArray⟩) :: piecesOf ⟨rest.toArray⟩ := by
  have hsz : (⟨(E ++ rest).toArray⟩ : ByteArray).size = E.length + rest.length := by show (E ++ rest).length = _; rw [List.length_append]
  have hne : E ++ rest ≠ [] := fun h => by rw [(List.append_eq_nil_iff.1 h).1] at h1; simp at h1
  have h0 : (⟨(E ++ rest).toArray⟩ : ByteArray).size ≠ 0 := by omega
  have g1 : (decodeGo ⟨(E ++ rest).toArray⟩).1 = v := by rw [decodeGo_list _ hne, hd]
  have g2 : (decodeGo ⟨(E ++ rest).toArray⟩).2 = E.length := by rw [decodeGo_list _ hne, hd]
  have e1 : (⟨(E ++ rest).toArray⟩ : ByteArray).extract 0 E.length = ⟨E.toArray⟩ := by
    refine ba_ext ?_
    rw [ba_extract, List.drop_zero]
    simp
  have e2 : (⟨(E ++ rest).toArray⟩ : ByteArray).extract E.length (⟨(E ++ rest).toArray⟩ : ByteArray).size = ⟨rest.toArray⟩ := by
    refine ba_ext ?_
    rw [ba_extract, hsz, List.take_of_length_le (by rw [List.length_append]; exact Nat.le_refl _), List.drop_left]
  rw [piecesOf_cons _ h0, g1, g2, e1, e2]
theorem pieces_enc (v : Nat) (hv : validR v) (rest : List UInt8) : piecesOf ⟨(encodeRune (v : Int) ++ rest).toArray⟩ = ((v : Int), ⟨(encodeRune (v : Int)).toArray⟩) :: piecesOf ⟨rest.toArray⟩ := by
  have hl := runeCells_le (v : Int)
  rw [runeCells_length] at hl
  exact pieces_head v _ rest hl.1 (dec_enc v hv rest)
end Go.Proofs.YtcpknkdnboiecaaDoor
