/- (*reader).plain: the bytes that may be in a key are taken off. Its condition: the text is no longer than 2^44 bytes. -/
import Derived.Test.YtnmofpefofkoeaaGreatDoorFLogfmtReaderSkip
import Derived.Test.YtnmofpefofkoeaaGreatDoorFLogfmtReaderPlainLit1
import Derived.Test.YtnmofpefofkoeaaGreatDoorShelf
set_option linter.unusedVariables false
namespace Go.Proofs.YtnmofpefofkoeaaGreatDoor
open Go Go.RowKit Go.Lib Go.Proofs.YtnmofpefofkoeaaGreatDoorW.PrintWords Go.Proofs.YtnmofpefofkoeaaGreatDoorW.PrintLast Go.Proofs.YtnmofpefofkoeaaGreatDoorW.PrintMore Go.Proofs.YtnmofpefofkoeaaGreatDoor.P

/-- May a byte be in a key? -/
def plainB (c : UInt8) : Bool := !(c.toNat ≤ 32 || c.toNat == 61 || c.toNat == 34)
def plainN : List UInt8 → Nat
  | [] => 0
  | c :: t => if plainB c then plainN t + 1 else 0
theorem plainN_le : ∀ l, plainN l ≤ l.length
  | [] => by simp [plainN]
  | c :: t => by have := plainN_le t; rw [plainN]; split <;> simp <;> omega
theorem bt_drop (s : ByteArray) (i : Nat) (h : i < s.size) : ∃ c t, s.data.toList.drop i = c :: t ∧ bt s (i : Int) = c.toNat ∧ s.data.toList.drop (i + 1) = t := by
  have hl : s.data.toList.length = s.size := (Lib.size_eq s).symm
  refine ⟨s.data.toList[i]'(by omega), s.data.toList.drop (i + 1), List.drop_eq_getElem_cons (by omega), ?_, rfl⟩
  have h' : ((i : Int)).toNat < s.size := by rw [Int.toNat_natCast]; exact h
  rw [← bt_at s (i : Int) h']
  rfl
theorem plain_loop (s : ByteArray) (hs : s.size ≤ 17592186044416) : ∀ (d i k : Nat), s.size - i = d → i ≤ s.size → d < k → P.logfmt_reader_plainLit1.l0 k s (s.size : Int) (i : Int) = some ((i + plainN (s.data.toList.drop i) : Nat) : Int)
  | 0, i, k, hd, hi, hk => by
    obtain ⟨k, rfl⟩ : ∃ m, k = m + 1 := ⟨k - 1, by omega⟩
    have hl : s.data.toList.length = s.size := (Lib.size_eq s).symm
    have : s.data.toList.drop i = [] := List.drop_eq_nil_of_le (by omega)
    rw [P.logfmt_reader_plainLit1.l0, if_neg (by omega), this, plainN]
    congr 1; omega
  | d + 1, i, k, hd, hi, hk => by
    obtain ⟨k, rfl⟩ : ∃ m, k = m + 1 := ⟨k - 1, by omega⟩
    obtain ⟨c, t, e, hb, et⟩ := bt_drop s i (by omega)
    have hw : wrap64 ((i : Int) + 1) = ((i + 1 : Nat) : Int) := by unfold wrap64; omega
    rw [P.logfmt_reader_plainLit1.l0, if_pos (by omega), if_pos (by omega), if_pos (by omega), hb, e, plainN, hw]
    by_cases h1 : c.toNat ≤ 32
    · have : plainB c = false := by simp [plainB, h1]
      rw [if_pos (by omega), this]; rfl
    · rw [if_neg (by omega)]
      by_cases h2 : c.toNat = 61
      · have : plainB c = false := by simp [plainB, h2]
        rw [if_pos (by omega), this]; rfl
      · rw [if_neg (by omega)]
        by_cases h3 : c.toNat = 34
        · have : plainB c = false := by simp [plainB, h3]
          rw [if_pos (by omega), this]; rfl
        · have : plainB c = true := by simp [plainB, h1, h2, h3]
          rw [if_neg (by omega), this, if_pos rfl, plain_loop s hs d (i + 1) k (by omega) (by omega) (by omega), et]
          congr 2; omega
theorem plainLit_f (s : ByteArray) (hs : s.size ≤ 17592186044416) : P.logfmt_reader_plainLit1.f (s.size + 1) s = some ((plainN s.data.toList : Nat) : Int) := by
  unfold P.logfmt_reader_plainLit1.f
  have := plain_loop s hs s.size 0 (s.size + 1) (by omega) (by omega) (by omega)
  rw [Nat.zero_add, List.drop_zero] at this
  exact this

set_option maxRecDepth 100000 in
set_option maxHeartbeats 1000000 in
theorem plain_calls (g : Nat) (s : ByteArray) (k n : Nat) (hn : P.logfmt_reader_plainLit1.f k s = some (n : Int)) (h1 : n ≤ s.size) (w0 w : World) (hI : IsS43 w0 w g s) (hB : Below w0.heap.size w0 w) :
    Calls Tryz.prog 40 #[.pointer (some ⟨g, 0, none⟩)] w fun e w' => e = .returned (.string (s.extract 0 n)) ∧ IsS43 w0 w' g (s.extract n s.size) ∧ Below w0.heap.size w0 w' ∧ KeepBut w w' g none := by
  have hu := Tryz.underlying43
  have HI := Aside0.mk hI
  have HB := Aside0.mk hB
  have HN := Aside0.mk hn
  have hcz : w.cell? ⟨g, 0, none⟩ = some (.string s) := (blk_cell hI.1 0).trans rfl
  have hfz := blk_frozen hI.1 0
  have hc1 : decide (0 ≤ (n : Int)) = true := decide_eq_true (by omega)
  have hc2 : decide ((n : Int) ≤ (s.size : Int)) = true := decide_eq_true (by omega)
  have hc3 : (n : Int) ≤ (s.size : Int) := by omega
  have hc4 : (0 : Int) ≤ (n : Int) := by omega
  have htn : ((n : Int)).toNat = n := by omega
  clear hI hB hn
  go_enter Tryz.func40, Tryz.ntmps40
  go_wp2_with (go_at_call 65; (with_reducible refine (P.logfmt_reader_plainLit1.calls k s (n : Int) _ HN.out).mono ?_); rintro e w' ⟨rfl, hd⟩; obtain ⟨m, rfl⟩ := hd.out)
  go_ret
  exact ⟨rfl, (HI.out.drewN m).set_0 _, below_set (pw_below_drewN HB.out m) HI.out.ge, KeepBut.set_ (keep_drewN (KeepBut.refl w g none) m) _ _⟩
end Go.Proofs.YtnmofpefofkoeaaGreatDoor
namespace Go.Proofs.YtnmofpefofkoeaaGreatDoor.P
open Go Go.RowKit Go.Proofs.YtnmofpefofkoeaaGreatDoorW.PrintWords
def logfmt_reader_plain.f (s0_0 : ByteArray) : Option (ByteArray × ByteArray) := if s0_0.size ≤ 17592186044416 then some (s0_0.extract 0 (plainN s0_0.data.toList), s0_0.extract (plainN s0_0.data.toList) s0_0.size) else none
theorem logfmt_reader_plain.calls (g : Nat) (s0_0 : ByteArray) (r1 : ByteArray) (r2 : ByteArray) (w0 w : World) (hI : IsS43 w0 w g s0_0) (hB : Below w0.heap.size w0 w) (h : logfmt_reader_plain.f s0_0 = some (r1, r2)) :
    Calls Tryz.prog 40 #[.pointer (some ⟨g, 0, none⟩)] w fun e w' => e = .returned (.string r1) ∧ IsS43 w0 w' g r2 ∧ Below w0.heap.size w0 w' ∧ KeepBut w w' g none := by
  unfold logfmt_reader_plain.f at h
  split at h
  · rename_i hs
    injection h with h
    injection h with h1 h2
    subst h1; subst h2
    have hl : s0_0.data.toList.length = s0_0.size := (Lib.size_eq s0_0).symm
    exact plain_calls g s0_0 _ _ (plainLit_f s0_0 hs) (by have := plainN_le s0_0.data.toList; omega) w0 w hI hB
  · contradiction
end Go.Proofs.YtnmofpefofkoeaaGreatDoor.P
