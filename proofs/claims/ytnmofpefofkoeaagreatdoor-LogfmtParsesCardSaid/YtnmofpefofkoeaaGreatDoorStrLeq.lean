/- At most, between two texts, is 'not: the second is less'. No condition. -/
import Derived.Laws.Strings
namespace Go.Proofs.YtnmofpefofkoeaaGreatDoor
open Go
theorem less_flip : ∀ a b : List UInt8, (Op.bytesLess a b || a == b) = !(Op.bytesLess b a)
  | [], [] => by decide
  | [], b :: bs => by simp [Op.bytesLess]
  | a :: as, [] => by simp [Op.bytesLess]
  | a :: as, b :: bs => by
    have ih := less_flip as bs
    have e : ((a :: as) == (b :: bs)) = ((a == b) && (as == bs)) := rfl
    rw [Op.bytesLess, Op.bytesLess, e]
    by_cases h1 : a = b
    · subst h1
      have : ¬ a < a := fun h => absurd h (by simp)
      simp [this]
      simpa using ih
    · have h2 : (a == b) = false := beq_eq_false_iff_ne.2 h1
      have h3 : (b == a) = false := beq_eq_false_iff_ne.2 (fun h => h1 h.symm)
      rw [h2, h3]
      simp only [Bool.false_and, Bool.or_false]
      by_cases h4 : a < b
      · have : ¬ b < a := fun h => absurd (UInt8.lt_iff_toNat_lt.1 h) (by have := UInt8.lt_iff_toNat_lt.1 h4; omega)
        simp [h4, this]
      · have : b < a := UInt8.lt_iff_toNat_lt.2 (by
          have h5 : ¬ a.toNat < b.toNat := fun h => h4 (UInt8.lt_iff_toNat_lt.2 h)
          have h6 : a.toNat ≠ b.toNat := fun h => h1 (UInt8.toNat_inj.1 h)
          omega)
        simp [h4, this]
theorem leq_str (t : TypeId) (a b : ByteArray) : binOp .leq t (.string a) (.string b) = pure (.bool (!(Op.bytesLess b.toList a.toList))) := by
  rw [← less_flip]
  simp [binOp, Op.stringOp]
end Go.Proofs.YtnmofpefofkoeaaGreatDoor
