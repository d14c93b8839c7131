/- strings.Trim(strings.ToLower(t), the digits to the base 16) is nothing just if each byte of t is such a digit. No program in sight. -/
import Derived.Test.YtnmofpefofkoeaaGreatDoorParse16
import Derived.Shelf.Strings.CaseAny
import Derived.Lib.SlTrimSet
import Derived.Lib.MapLaws
set_option linter.unusedVariables false
namespace Go.Proofs.YtnmofpefofkoeaaGreatDoor
open Go Go.Lib

def hexSet : List UInt8 := [48, 49, 50, 51, 52, 53, 54, 55, 56, 57, 97, 98, 99, 100, 101, 102]

theorem dropWhile_nil_iff {α : Type} (p : α → Bool) (l : List α) : l.dropWhile p = [] ↔ ∀ x ∈ l, p x = true := by
  induction l with
  | nil => simp
  | cons a l ih =>
    rw [List.dropWhile_cons]
    cases h : p a
    · simp [h]
    · simp [h, ih]
theorem mem_dropWhile {α : Type} (p : α → Bool) (l : List α) (x : α) (hx : x ∈ l) (hp : p x = false) : x ∈ l.dropWhile p := by
  induction l with
  | nil => cases hx
  | cons a l ih =>
    rw [List.dropWhile_cons]
    cases h : p a
    · simpa using hx
    · rcases List.mem_cons.1 hx with rfl | hx
      · rw [hp] at h; cases h
      · simpa using ih hx
theorem trimS_nil_iff (l cs : List UInt8) : trimS l cs = [] ↔ ∀ x ∈ l, cs.contains x = true := by
  unfold trimS trimLeftS trimRightS
  rw [dropWhile_nil_iff]
  constructor
  · intro h x hx
    cases hc : cs.contains x with
    | true => rfl
    | false =>
      have := h x (List.mem_reverse.2 (mem_dropWhile _ _ x (List.mem_reverse.2 hx) hc))
      rw [hc] at this; cases this
  · intro h x hx
    have h2 := List.mem_reverse.1 hx
    exact h x (List.mem_reverse.1 ((List.dropWhile_suffix _).mem h2))

def rowHigh (x : CaseRow) : Bool := decide (x.2.1 < 128) || decide (x.delta 1 > 1114111) || (decide (103 ≤ (x.1 : Int) + x.delta 1) || decide (103 ≤ 128 + x.delta 1))
theorem rows_high : caseT.all rowHigh = true := by decide +kernel
theorem row_high (i : Nat) (hi : i < caseA.size) : rowHigh (caseA.getD i (0, 0, 0, 0, 0)) = true := by
  have h := List.all_eq_true.1 rows_high
  have e : caseA.getD i (0, 0, 0, 0, 0) = caseA[i] := by simp [Array.getD, hi]
  rw [e]
  refine h _ ?_
  simp [caseA]
theorem lower_high (r : Nat) (h0 : 128 ≤ r) : 103 ≤ toLowerU (r : Int) := by
  unfold toLowerU
  rw [if_neg (by omega)]
  unfold toR lookupGo
  cases hi : lookupIdx caseA r (caseA.size + 1) 0 caseA.size with
  | none => simp only [Option.map_none]; omega
  | some i =>
    obtain ⟨hil, hlo, hhi⟩ := lookupIdx_some caseA r _ _ _ i hi
    have hr := row_high i hil
    simp only [Option.map_some]
    generalize caseA.getD i (0, 0, 0, 0, 0) = x at *
    unfold rowHigh at hr
    simp only [Bool.or_eq_true, decide_eq_true_eq] at hr
    unfold convertR
    split
    · omega
    · rename_i hd
      rcases hr with (hr | hr) | hr | hr <;> omega

theorem enc_high (r : Int) (h0 : 103 ≤ r) : ∃ b ∈ encodeRune r, hexSet.contains b = false := by
  have big : ∀ c : UInt8, 103 ≤ c.toNat → hexSet.contains c = false := by
    intro c hc
    cases h : hexSet.contains c with
    | false => rfl
    | true =>
      simp only [hexSet, List.contains_cons, List.contains_nil, Bool.or_false, Bool.or_eq_true, beq_iff_eq] at h
      rcases h with h | h | h | h | h | h | h | h | h | h | h | h | h | h | h | h <;> (rw [h] at hc; exact absurd hc (by decide))
  have nat : ∀ k : Nat, 103 ≤ k → k < 256 → ∀ _ : Unit, hexSet.contains ((k : Int).toNat.toUInt8) = false := by
    intro k h1 h2 _
    refine big _ ?_
    have : ((k : Int).toNat.toUInt8).toNat = k := by simp [Nat.toUInt8, UInt8.toNat_ofNat']; omega
    omega
  unfold encodeRune encodeRuneZ
  split
  · exact ⟨_, List.mem_map.2 ⟨r, by simp, rfl⟩, by
      have := nat r.toNat (by omega) (by omega) ()
      rwa [show ((r.toNat : Nat) : Int) = r by omega] at this⟩
  · split
    · exact ⟨_, List.mem_map.2 ⟨192 + r / 64, by simp, rfl⟩, by
        have := nat (192 + r / 64).toNat (by omega) (by omega) ()
        rwa [show (((192 + r / 64).toNat : Nat) : Int) = 192 + r / 64 by omega] at this⟩
    · split
      · exact ⟨_, List.mem_map.2 ⟨224 + r / 4096, by simp, rfl⟩, by
          have := nat (224 + r / 4096).toNat (by omega) (by omega) ()
          rwa [show (((224 + r / 4096).toNat : Nat) : Int) = 224 + r / 4096 by omega] at this⟩
      · split
        · exact ⟨_, List.mem_map.2 ⟨240 + r / 262144, by simp, rfl⟩, by
            have := nat (240 + r / 262144).toNat (by omega) (by omega) ()
            rwa [show (((240 + r / 262144).toNat : Nat) : Int) = 240 + r / 262144 by omega] at this⟩
        · exact ⟨239, by decide, by decide⟩

theorem decode_high (b : UInt8) (t : List UInt8) (h : 128 ≤ b.toNat) : 128 ≤ (decodeL (b :: t)).1 := by
  rw [decodeL_N]
  rcases decodeN_shape (b :: t).length ((b :: t).getD 0 0).toNat ((b :: t).getD 1 0).toNat ((b :: t).getD 2 0).toNat ((b :: t).getD 3 0).toNat with ⟨c, e⟩ | ⟨c1, c2, c3, cv, e⟩ | ⟨c1, c2, c3, c4, cv, cs, e⟩ | ⟨c1, c2, c3, c4, c5, cv, cw, e⟩ | e
  · exact absurd (show b.toNat < 128 from c) (by omega)
  all_goals (rw [e]; dsimp only; omega)

theorem hex_low : ∀ i : Fin 128, (∀ c ∈ encodeRune (toLowerU (i.val : Int)), hexSet.contains c = true) ↔ hexDig i.val < 16 := by decide +kernel
theorem hexDig_high (n : Nat) (h : 128 ≤ n) : hexDig n = 16 := by unfold hexDig; rw [if_neg (by omega), if_neg (by omega), if_neg (by omega)]

theorem lower_hex_iff : ∀ (l : List UInt8), (∀ x ∈ toLowerD l, hexSet.contains x = true) ↔ ∀ c ∈ l, hexDig c.toNat < 16
  | [] => by simp [toLowerD, mapD_nil]
  | b :: t => by
    unfold toLowerD
    rw [mapD_step toLowerU (b :: t) (by simp)]
    by_cases hb : b.toNat < 128
    · have ih := lower_hex_iff t
      unfold toLowerD at ih
      rw [decodeL_ascii b t hb]
      dsimp only
      rw [if_pos (toLowerU_range b.toNat (by omega)).1, List.drop_succ_cons, List.drop_zero]
      have hl := hex_low ⟨b.toNat, hb⟩
      simp only [List.mem_append, List.mem_cons, forall_eq_or_imp] at ih ⊢
      rw [← ih, ← hl]
      constructor
      · intro h; exact ⟨fun c hc => h c (Or.inl hc), fun c hc => h c (Or.inr hc)⟩
      · rintro ⟨h1, h2⟩ c (hc | hc)
        · exact h1 c hc
        · exact h2 c hc
    · have hd := decode_high b t (by omega)
      have h103 := lower_high _ hd
      obtain ⟨x, hx, hn⟩ := enc_high _ h103
      rw [if_pos (by omega)]
      constructor
      · intro h
        have := h x (List.mem_append.2 (Or.inl hx))
        rw [hn] at this; cases this
      · intro h
        have := h b (by simp)
        rw [hexDig_high _ (by omega)] at this
        omega

theorem trim_lower_nil (l : List UInt8) : trimS (toLowerD l) hexSet = [] ↔ ∀ c ∈ l, hexDig c.toNat < 16 := (trimS_nil_iff _ _).trans (lower_hex_iff l)

theorem mapGoD_length (f : Int → Int) : ∀ (n : Nat) (l : List UInt8), (mapGoD f n l).length ≤ 4 * n
  | 0, l => by simp [mapGoD]
  | n + 1, l => by
    rw [mapGoD]
    split
    · simp
    · have h1 := mapGoD_length f n (l.drop (decodeL l).2)
      rw [List.length_append]
      split
      · have h2 := (runeCells_le (f (decodeL l).1)).2
        rw [runeCells_length] at h2
        omega
      · simp; omega
theorem toLowerD_length (l : List UInt8) : (toLowerD l).length ≤ 4 * l.length := mapGoD_length _ _ _
end Go.Proofs.YtnmofpefofkoeaaGreatDoor
