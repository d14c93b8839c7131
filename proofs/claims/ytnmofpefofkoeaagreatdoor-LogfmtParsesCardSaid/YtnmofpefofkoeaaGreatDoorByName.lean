/- labels.byName, and the test that labels.Drop hands on: what they answer. No condition. -/
import Derived.Test.YtnmofpefofkoeaaGreatDoorF0
import Derived.Shelf.Abstract
set_option linter.unusedVariables false
namespace Go.Proofs.YtnmofpefofkoeaaGreatDoor
open Go Go.RowKit Go.Lib Go.Proofs.YtnmofpefofkoeaaGreatDoorW.PrintWords Go.Proofs.YtnmofpefofkoeaaGreatDoor.P

abbrev Lab := S35
abbrev labV (x : Lab) : Value := .agg #[.string x.f0, .string x.f1]

set_option maxRecDepth 100000 in
set_option maxHeartbeats 1000000 in
theorem byName_calls (a b : Lab) (w : World) :
    Calls Tryz.prog 27 #[labV a, labV b] w fun e w' => e = .returned (.int .i64 (compareBytes a.f0.data.toList b.f0.data.toList)) ∧ Below w.heap.size w w' := by
  have hu := Tryz.underlying35

  go_enter Tryz.func27, Tryz.ntmps27
  go_wp2_with (go_at_call 54; (with_reducible refine (Tryz.strings_Compare _ _ _).mono ?_); rintro e w' ⟨rfl, rfl⟩)
  go_ret
  exact ⟨rfl, by repeat (first | exact Below.refl _ _ | apply below_alloc | apply pw_below_drewN | apply below_drew1)⟩

set_option maxRecDepth 100000 in
set_option maxHeartbeats 1000000 in
theorem drop1_calls (a : Lab) (n : ByteArray) (B : Nat) (w : World) (hB : w.cell? ⟨B, 0, none⟩ = some (.string n)) (hl : B < w.heap.size) :
    Calls Tryz.prog 53 #[labV a, .pointer (some ⟨B, 0, none⟩)] w fun e w' => e = .returned (.bool (!(a.f0.toList == n.toList))) ∧ Below w.heap.size w w' := by
  have hu := Tryz.underlying35

  go_enter Tryz.func53, Tryz.ntmps53
  go_wp2
  go_ret
  exact ⟨rfl, by repeat (first | exact Below.refl _ _ | apply below_alloc | apply pw_below_drewN | apply below_drew1)⟩
end Go.Proofs.YtnmofpefofkoeaaGreatDoor
