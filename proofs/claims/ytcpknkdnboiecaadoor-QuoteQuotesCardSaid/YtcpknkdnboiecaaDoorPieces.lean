/- The runes of a text with their bytes, as a plain list ('pieces'), by the model's own decoder. No condition. -/
import Derived.Lib.DecodeN
import Derived.Shelf.Unicode.DecodeSlow
namespace Go.Proofs.YtcpknkdnboiecaaDoor
open Go

/-- The first rune and its width. -/
def pieces : Nat → ByteArray → List (Int × ByteArray)
  | 0, _ => []
  | k + 1, s => if s.size = 0 then [] else (((Lib.decodeGo s).1 : Int), s.extract 0 (Lib.decodeGo s).2) :: pieces k (s.extract (Lib.decodeGo s).2 s.size)

theorem decodeN_bounds (n b0 b1 b2 b3 : Nat) (hn : 1 ≤ n) (h0 : b0 < 256) : 1 ≤ (Lib.decodeN n b0 b1 b2 b3).2 ∧ (Lib.decodeN n b0 b1 b2 b3).2 ≤ n ∧ (Lib.decodeN n b0 b1 b2 b3).2 ≤ 4 ∧ (Lib.decodeN n b0 b1 b2 b3).1 ≤ 1114111 := by
  unfold Lib.decodeN
  repeat' split
  all_goals (simp only; omega)

theorem decodeGo_eq (s : ByteArray) (h : s.size ≠ 0) : Lib.decodeGo s = Lib.decodeN s.size (s.get! 0).toNat (s.get! 1).toNat (s.get! 2).toNat (s.get! 3).toNat := by
  unfold Lib.decodeGo
  rw [if_neg h, Lib.decode_at]
  rfl

theorem decodeGo_bounds (s : ByteArray) (h : s.size ≠ 0) : 1 ≤ (Lib.decodeGo s).2 ∧ (Lib.decodeGo s).2 ≤ s.size ∧ (Lib.decodeGo s).2 ≤ 4 ∧ (Lib.decodeGo s).1 ≤ 1114111 := by
  rw [decodeGo_eq s h]
  exact decodeN_bounds _ _ _ _ _ (by omega) (by simpa using (s.get! 0).toNat_lt)

theorem extract_size (s : ByteArray) (a b : Nat) : (s.extract a b).size = min b s.size - a := by simp

/-- A piece has one to four bytes, and a rune's number. -/
def PieceOk (x : Int × ByteArray) : Prop := 0 < x.2.size ∧ x.2.size ≤ 4 ∧ 0 ≤ x.1 ∧ x.1 ≤ 1114111

theorem pieces_ok : ∀ (k : Nat) (s : ByteArray), ∀ x ∈ pieces k s, PieceOk x
  | 0, _, x, h => by simp [pieces] at h
  | k + 1, s, x, h => by
    unfold pieces at h
    split at h
    · simp at h
    · rename_i hs
      have hb := decodeGo_bounds s hs
      rcases List.mem_cons.1 h with rfl | h
      · unfold PieceOk
        simp only [extract_size]
        omega
      · exact pieces_ok k _ x h

theorem pieces_nil (k : Nat) (s : ByteArray) (h : s.size = 0) : pieces k s = [] := by
  cases k with
  | zero => rfl
  | succ k => simp [pieces, h]

theorem pieces_cons (k : Nat) (s : ByteArray) (h : s.size ≠ 0) : pieces (k + 1) s = (((Lib.decodeGo s).1 : Int), s.extract 0 (Lib.decodeGo s).2) :: pieces k (s.extract (Lib.decodeGo s).2 s.size) := by
  simp [pieces, h]

/-- More rounds than bytes change nothing. -/
theorem pieces_mono : ∀ (k m : Nat) (s : ByteArray), s.size ≤ k → s.size ≤ m → pieces k s = pieces m s
  | 0, m, s, h, _ => by rw [pieces_nil 0 s (by omega), pieces_nil m s (by omega)]
  | k + 1, m, s, h, h2 => by
    by_cases hs : s.size = 0
    · rw [pieces_nil _ s hs, pieces_nil _ s hs]
    · cases m with
      | zero => omega
      | succ m =>
        have hb := decodeGo_bounds s hs
        rw [pieces_cons k s hs, pieces_cons m s hs, pieces_mono k m _ (by rw [extract_size]; omega) (by rw [extract_size]; omega)]

theorem pieces_length : ∀ (k : Nat) (s : ByteArray), (pieces k s).length ≤ s.size
  | 0, _ => by simp [pieces]
  | k + 1, s => by
    by_cases hs : s.size = 0
    · rw [pieces_nil _ s hs]; simp
    · have hb := decodeGo_bounds s hs
      rw [pieces_cons k s hs]
      have := pieces_length k (s.extract (Lib.decodeGo s).2 s.size)
      rw [extract_size] at this
      simp
      omega

/-- All of a text's. -/
def piecesOf (s : ByteArray) : List (Int × ByteArray) := pieces s.size s

theorem piecesOf_nil (s : ByteArray) (h : s.size = 0) : piecesOf s = [] := pieces_nil _ s h
theorem piecesOf_cons (s : ByteArray) (h : s.size ≠ 0) : piecesOf s = (((Lib.decodeGo s).1 : Int), s.extract 0 (Lib.decodeGo s).2) :: piecesOf (s.extract (Lib.decodeGo s).2 s.size) := by
  have hb := decodeGo_bounds s h
  unfold piecesOf
  obtain ⟨m, hm⟩ : ∃ m, s.size = m + 1 := ⟨s.size - 1, by omega⟩
  rw [hm, pieces_cons m s h, ← hm]
  rw [pieces_mono m _ _ (by rw [extract_size]; omega) (Nat.le_refl _)]
theorem piecesOf_ok (s : ByteArray) : ∀ x ∈ piecesOf s, PieceOk x := pieces_ok _ s
theorem piecesOf_length (s : ByteArray) : (piecesOf s).length ≤ s.size := pieces_length _ s

end Go.Proofs.YtcpknkdnboiecaaDoor
