/- strings.Contains at a text of one byte. -/
import Derived.Test.YtcpknkdnboiecaaDoorShelf
import Derived.Test.YtcpknkdnboiecaaDoorWWords
namespace Go.Proofs.YtcpknkdnboiecaaDoor.P
open Go Go.RowKit Go.Proofs.YtcpknkdnboiecaaDoorW.PrintWords
def strings_Contains.f (a0 a1 : ByteArray) : Option Bool := match a1.data.toList with
  | [c] => some (decide (0 ≤ Lib.indexByte a0.data.toList c))
  | _ => none
theorem strings_Contains.calls (a0 a1 : ByteArray) (r : Bool) (w : World) (h : strings_Contains.f a0 a1 = some r) :
    Calls Tryd.prog 20 #[.string a0, .string a1] w fun e w' => e = .returned (.bool r) ∧ Below w.heap.size w w' := by
  unfold strings_Contains.f at h
  split at h
  · rename_i c hc
    simp only [Option.some.injEq] at h
    subst h
    have : a1 = ⟨#[c]⟩ := by
      cases a1 with | mk d => cases d with | mk l => simp at hc; subst hc; rfl
    subst this
    exact (Tryd.strings_Contains_one a0 c w).mono fun e w' he => by obtain ⟨h1, rfl⟩ := he; exact ⟨h1, Below.refl _ _⟩
  · contradiction
end Go.Proofs.YtcpknkdnboiecaaDoor.P
