/- strconv.ParseUint(s, 16, 64) at one to eight digits to the base 16. Its condition: the bytes are such digits, eight at most. -/
import Derived.WalkKit
import Derived.WalkSpells
import Derived.Outline
import Derived.KernelRfl
import Derived.Deep.LoopGhost
import Derived.Lib.ConvBytes
import Derived.Shelf.Abstract
import Derived.Lib.AtoiErrMem
import Derived.Lib.Strings
import Derived.BigCall
import Derived.BigGuard
import Derived.Lib.Hide
import Derived.Test.YtnmofpefofkoeaaGreatDoorProg
import Derived.Test.YtnmofpefofkoeaaGreatDoorWWords
set_option linter.unusedVariables false
namespace Go.Proofs.YtnmofpefofkoeaaGreatDoor
open Go Go.RowKit Go.Proofs.YtnmofpefofkoeaaGreatDoorW.PrintWords

/-- A digit's number to the base 16; 16: it is none. -/
def hexDig (c : Nat) : Nat := if 48 ≤ c ∧ c ≤ 57 then c - 48 else if 97 ≤ c ∧ c ≤ 102 then c - 87 else if 65 ≤ c ∧ c ≤ 70 then c - 55 else 16
def hexVal (l : List UInt8) : Nat := l.foldl (fun n c => n * 16 + hexDig c.toNat) 0
theorem hexVal_snoc (l : List UInt8) (c : UInt8) : hexVal (l ++ [c]) = hexVal l * 16 + hexDig c.toNat := by simp [hexVal]
theorem hexFold_lt (l : List UInt8) : ∀ (n k : Nat), n < 16 ^ k → (∀ c ∈ l, hexDig c.toNat < 16) → l.foldl (fun n c => n * 16 + hexDig c.toNat) n < 16 ^ (k + l.length) := by
  induction l with
  | nil => intro n k h _; simpa using h
  | cons c l ih =>
    intro n k h hc
    rw [List.foldl_cons, List.length_cons, show k + (l.length + 1) = (k + 1) + l.length by omega]
    refine ih _ _ ?_ (fun x hx => hc x (by simp [hx]))
    have h2 := hc c (by simp)
    rw [Nat.pow_succ]
    omega
theorem hexVal_lt (l : List UInt8) (h : ∀ c ∈ l, hexDig c.toNat < 16) : hexVal l < 16 ^ l.length := by
  have := hexFold_lt l 0 0 (by decide) h
  simpa [hexVal] using this
theorem low_or : ∀ c : Fin 256, Go.bits .or .u8 (c.val : Int) 32 = if 97 ≤ c.val ∧ c.val ≤ 102 then (c.val : Int) else if 65 ≤ c.val ∧ c.val ≤ 70 then (c.val : Int) + 32 else Go.bits .or .u8 (c.val : Int) 32 := by decide +kernel
theorem low_or_at (c : Nat) (h : c < 256) (h2 : 97 ≤ c ∧ c ≤ 102 ∨ 65 ≤ c ∧ c ≤ 70) : Go.bits .or .u8 (c : Int) 32 = ((hexDig c + 87 : Nat) : Int) := by
  rw [low_or ⟨c, h⟩]
  unfold hexDig
  rcases h2 with h2 | h2
  · simp only [h2, and_self, if_true]; rw [if_neg (by omega)]; omega
  · rw [if_neg (by simp only; omega), if_pos (by exact h2), if_neg (by omega), if_neg (by omega), if_pos h2]; simp only; omega

theorem lower_calls (c : Int) (w : World) : Calls Tryz.prog 116 #[.int .u8 c] w fun e w' => e = .returned (.int .u8 (Go.bits .or .u8 c 32)) ∧ w = w' := by
  go_enter Tryz.func116, Tryz.ntmps116
  go_wp2
  go_ret
  exact ⟨rfl, rfl⟩

set_option maxRecDepth 100000 in
set_option maxHeartbeats 2000000 in
theorem iparse16_calls (s : ByteArray) (w : World) (h0 : 0 < s.size) (h8 : s.size ≤ 8) (hx : Aside0 (∀ c ∈ s.data.toList, hexDig c.toNat < 16)) :
    Calls Tryz.prog 106 #[.string s, .int .i64 16, .int .i64 64] w fun e w' => e = .returned (.tuple #[.int .u64 (hexVal s.data.toList), .nilIface]) ∧ Below w.heap.size w w' := by
  have t2 : s.toList.isEmpty = false := by
    rw [← decide_eq_emptyBytes]
    exact decide_eq_false (fun h => by rw [h] at h0; exact absurd h0 (by decide))
  have hcv := Lib.run_convert_string_bytes (P := Tryz.prog) w 9 29 5 s (u := .string) Tryz.underlying9 Tryz.underlying29 Tryz.underlying5
  have hB : ∀ j, j < s.size → (Lib.bytesWorld w 5 s).cell? ⟨w.heap.size, j, none⟩ = some (.int .u8 (s.data.toList.getD j 0).toNat) := fun j hj => Lib.bytesWorld_cell w 5 s j hj
  have hbel : Below w.heap.size w (Lib.bytesWorld w 5 s) := Lib.bytesWorld_below w 5 s
  obtain ⟨W1, hW1⟩ : ∃ W1, W1 = Lib.bytesWorld w 5 s := ⟨_, rfl⟩
  rw [← hW1] at hcv hB hbel
  clear hW1
  obtain ⟨bs, hL⟩ : ∃ bs, bs = s.data.toList := ⟨_, rfl⟩
  have hLn : bs.length = s.size := by rw [hL, Lib.size_eq]
  rw [← hL] at hB hx ⊢
  clear hL
  have hmv : IntKind.u64.wrap (IntKind.u64.wrap 18446744073709551616 - 1) = 18446744073709551615 := by
    rw [IntKind.wrap_u64, IntKind.wrap_u64]
    decide
  go_enter Tryz.func106, Tryz.ntmps106
  go_wp2
  go_loop [12, 13, 101] (fun vu vn vi => ∃ (k : Nat) (a : Int), vu = .bool false ∧ vn = .int .u64 a ∧ vi = .int .i64 k ∧ k ≤ s.size ∧ Hid (a = (hexVal (bs.take k) : Int)))
    (fun _ _ vi => s.size - (intOf vi).toNat)
  case atStart => exact ⟨0, 0, rfl, rfl, rfl, by omega, rfl⟩
  case round =>
    obtain ⟨k, a, rfl, rfl, rfl, hk, hh⟩ := hrel
    have ha := hh.out
    clear hh
    have hlt := hexVal_lt (bs.take k) (fun c hc => hx.out c (List.mem_of_mem_take hc))
    rw [List.length_take, Nat.min_eq_left (by omega)] at hlt
    by_cases hkn : k < s.size
    · have hlt2 : hexVal (bs.take k) < 16 ^ 7 := Nat.lt_of_lt_of_le hlt (Nat.pow_le_pow_right (by decide) (by omega))
      have hc := hB k hkn
      have hget : bs.getD k 0 = bs[k]'(by omega) := by simp [List.getD, List.getElem?_eq_getElem (show k < bs.length by omega)]
      have hnx : hexVal (bs.take (k + 1)) = hexVal (bs.take k) * 16 + hexDig (bs[k]'(by omega)).toNat := by
        rw [List.take_succ_eq_append_getElem (by omega), hexVal_snoc]
      have hd := hx.out (bs[k]'(by omega)) (List.getElem_mem _)
      rw [hget] at hc
      generalize bs[k]'(by omega) = c at hc hnx hd
      have hc256 : c.toNat < 256 := c.toNat_lt
      clear hB hget hlt hx
      have a0 : 0 ≤ a := by omega
      have a1 : a < 268435456 := by omega
      by_cases hdig : 48 ≤ c.toNat ∧ c.toNat ≤ 57
      · obtain ⟨hd0, hd1⟩ := hdig
        have hdv : hexDig c.toNat = c.toNat - 48 := by unfold hexDig; rw [if_pos ⟨hd0, hd1⟩]
        have HN : Hid (a * 16 + ((c.toNat : Int) - 48) = (hexVal (bs.take (k + 1)) : Int)) := Lib.hid (by omega)
        clear hnx hlt2 ha hdv hd
        go_wp2
        refine ⟨⟨k + 1, a * 16 + ((c.toNat : Int) - 48), rfl, (by first | rfl | (congr 1; omega)), (by first | rfl | (congr 1; omega)), by omega, HN⟩, by simp [intOf]; omega⟩
      · have hlet : 97 ≤ c.toNat ∧ c.toNat ≤ 102 ∨ 65 ≤ c.toNat ∧ c.toNat ≤ 70 := by unfold hexDig at hd; split at hd <;> (try contradiction) <;> split at hd <;> (try omega) <;> split at hd <;> omega
        have hor := low_or_at c.toNat hc256 hlet
        have hdg : 10 ≤ hexDig c.toNat := by unfold hexDig; rw [if_neg hdig]; split <;> (try omega) <;> split <;> omega
        obtain ⟨d, hdd⟩ : ∃ d : Int, d = (hexDig c.toNat : Int) := ⟨_, rfl⟩
        have hor2 : Go.bits .or .u8 (c.toNat : Int) 32 = d + 87 := by rw [hor, hdd]; omega
        have d0 : 10 ≤ d := by omega
        have d1 : d < 16 := by omega
        have HN : Hid (a * 16 + d = (hexVal (bs.take (k + 1)) : Int)) := Lib.hid (by omega)
        have hl2 : 65 ≤ c.toNat := by omega
        have h95 : ¬ (c.toNat : Int) = 95 := by omega
        have HL : ∀ W, Calls Tryz.prog 116 #[.int .u8 (c.toNat : Int)] W fun e w' => e = .returned (.int .u8 (d + 87)) ∧ W = w' := fun W => by
          have := lower_calls (c.toNat : Int) W
          rw [hor2] at this
          exact this
        clear hnx hlt2 ha hd hdg hor hlet hdd hdig hor2
        go_wp2_with (go_at_call 116; refine (HL _).mono ?_; rintro e w' ⟨rfl, rfl⟩)
        refine ⟨⟨k + 1, a * 16 + d, rfl, (by first | rfl | (congr 1; omega)), (by first | rfl | (congr 1; omega)), by omega, HN⟩, by simp [intOf]; omega⟩
    · have hkk : k = s.size := by omega
      subst hkk
      rw [List.take_of_length_le (by omega)] at ha
      subst ha
      clear hB hlt hx
      go_wp2
      go_ret2
      exact ⟨rfl, hbel⟩

/-- strconv.ParseUint(s, 16, 64): the number, no error. -/
theorem parse16_calls (s : ByteArray) (w : World) (h0 : 0 < s.size) (h8 : s.size ≤ 8) (hx : Aside0 (∀ c ∈ s.data.toList, hexDig c.toNat < 16)) :
    Calls Tryz.prog 92 #[.string s, .int .i64 16, .int .i64 64] w fun e w' => e = .returned (.tuple #[.int .u64 (hexVal s.data.toList), .nilIface]) ∧ Below w.heap.size w w' := by
  go_enter Tryz.func92, Tryz.ntmps92
  go_wp2_with (go_at_call 106; refine (iparse16_calls s w h0 h8 hx).mono ?_; rintro e w' ⟨rfl, hb⟩)
  go_ret2
  exact ⟨rfl, hb⟩
end Go.Proofs.YtnmofpefofkoeaaGreatDoor
