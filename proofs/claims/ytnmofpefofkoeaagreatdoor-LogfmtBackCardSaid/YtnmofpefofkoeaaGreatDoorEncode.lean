/- quote.Encode. Its condition: none (the number is an int32). -/
import Derived.Test.YtnmofpefofkoeaaGreatDoorShelf
import Derived.Test.YtnmofpefofkoeaaGreatDoorBuilder
import Derived.Laws.IdiomStrings
import Derived.Shelf.Abstract
namespace Go.Proofs.YtnmofpefofkoeaaGreatDoor
open Go Go.RowKit Go.Proofs.YtnmofpefofkoeaaGreatDoorW.PrintWords

set_option maxRecDepth 100000 in
set_option maxHeartbeats 1000000 in
theorem encode_calls (r : Int) (hr0 : -2147483648 ≤ r) (hr1 : r ≤ 2147483647) (w : World) :
    Calls Tryz.prog 94 #[.int .i32 r] w fun e w' => e = .returned (.string ⟨(Lib.encodeRune r).toArray⟩) ∧ Below w.heap.size w w' := by
  go_enter Tryz.func94, Tryz.ntmps94
  go_wp2_with (go_at_call 108; refine (Tryz.utf8_AppendRune_plain w.heap.size (.slice none 0 0) 0 [] r hr0 hr1 w (World.ownsRow_nil _ _ _ _) (by decide) (Nat.le_refl _)).mono ?_; rintro e w' ⟨v', rfl, hown, o, hgrow⟩)
  have hlen := Lib.runeCells_le r
  have hbel : Below w.heap.size w w' := ((Below.refl _ w).alloc (Nat.le_refl _) o).grown hgrow (by simp) (fun k hk => by simp [Value.ownBlock] at hk)
  have hcells : w'.ownsRow w.heap.size 5 1 v' (Lib.encodeRune r).length (Lib.runeCells r) := by
    have := hown; rw [Nat.zero_add, Lib.runeCells_length, List.nil_append] at this; exact this
  obtain ⟨g, cap, cur, rfl, hg⟩ : ∃ g cap cur, v' = .slice (some ⟨g, 0, none⟩) (Lib.encodeRune r).length cap ∧ w'.heap[g]? = some (.cells cur 5 (0, 0)) := by
    rcases hcells.2 with ⟨_, h0⟩ | ⟨g, cap, cur, h1, _, h2, _⟩
    · rw [Lib.runeCells_length] at hlen; omega
    · exact ⟨g, cap, cur, h1, h2⟩
  have hcv := run_convert_bytes_back (P := Tryz.prog) w' 29 9 5 ⟨g, 0, none⟩ cap (Lib.encodeRune r) Tryz.underlying29 Tryz.underlying5 Tryz.underlying9 (fun j hj => by
    have h1 := hcells.cells (g := g) rfl j (.int .u8 ((Lib.encodeRune r)[j].toNat : Int)) (by
      rw [← Lib.byteCells_encodeRune]
      simp [Lib.byteCells, List.getElem?_eq_getElem hj])
    exact h1)
  clear hown hgrow hcells hg hlen
  go_wp2
  rw [hcv]
  go_wp2
  go_ret
  exact ⟨rfl, hbel⟩

end Go.Proofs.YtnmofpefofkoeaaGreatDoor
namespace Go.Proofs.YtnmofpefofkoeaaGreatDoor.P
open Go Go.RowKit Go.Proofs.YtnmofpefofkoeaaGreatDoorW.PrintWords
def quote_Encode.f (a0 : Int) : Option ByteArray := if -2147483648 ≤ a0 ∧ a0 ≤ 2147483647 then some ⟨(Lib.encodeRune a0).toArray⟩ else none
theorem quote_Encode.calls (a0 : Int) (r : ByteArray) (w : World) (h : quote_Encode.f a0 = some r) :
    Calls Tryz.prog 94 #[.int .i32 a0] w fun e w' => e = .returned (.string r) ∧ Below w.heap.size w w' := by
  simp only [quote_Encode.f] at h
  split at h
  · rename_i hr
    simp only [Option.some.injEq] at h
    subst h
    exact encode_calls a0 hr.1 hr.2 w
  · contradiction
end Go.Proofs.YtnmofpefofkoeaaGreatDoor.P
