/- What the laid package variables hold, as one fact of the world ('G'), and that it stands in every later world ('G.at'). No condition. -/
import Derived.Test.YtnmofpefofkoeaaGreatDoorProg
import Derived.Test.YtnmofpefofkoeaaGreatDoorWWords
import Derived.Test.YtnmofpefofkoeaaGreatDoorShelf
import Derived.Lib.LaidU8
import Derived.Lib.LaidCase
import Derived.Maps.OwnSet
import Derived.Below
import Derived.KernelRfl
import Derived.ProofKit
namespace Go.Proofs.YtnmofpefofkoeaaGreatDoor
open Go Go.RowKit Go.Lib Go.Maps Go.WideElems Go.WideMaps Go.Proofs.YtnmofpefofkoeaaGreatDoorW.PrintWords

/-- The entries of quote.escapes and of quote.coded, as the row lists them. -/
def escData : DataW Unit := .map [(.int .u8 34, .lit (.int .u8 34)), (.int .u8 39, .lit (.int .u8 39)), (.int .u8 92, .lit (.int .u8 92)), (.int .u8 97, .lit (.int .u8 7)), (.int .u8 98, .lit (.int .u8 8)), (.int .u8 102, .lit (.int .u8 12)), (.int .u8 110, .lit (.int .u8 10)), (.int .u8 114, .lit (.int .u8 13)), (.int .u8 116, .lit (.int .u8 9)), (.int .u8 118, .lit (.int .u8 11))]
def codData : DataW Unit := .map [(.int .u8 85, .lit (.int .i64 8)), (.int .u8 117, .lit (.int .i64 4)), (.int .u8 120, .lit (.int .i64 2))]

def HoldsMap (P : Program) (K E g : Nat) (D : DataW Unit) (w : World) : Prop :=
  ∃ bm n, w.cell? ⟨g, 0, none⟩ = some (.map (some bm)) ∧ w.ownsMap P K (plainElem P E) bm n D

theorem HoldsMap.below {P : Program} {K E g : Nat} {D : DataW Unit} {w w' : World} (h : HoldsMap P K E g D w) (hb : Below w.heap.size w w') : HoldsMap P K E g D w' := by
  obtain ⟨bm, n, hc, hm⟩ := h
  have hl := hm.lt
  obtain ⟨es, clock, hb', F, hn, hD⟩ := hm
  have hg : g < w.heap.size := by
    rcases Nat.lt_or_ge g w.heap.size with h' | h'
    · exact h'
    · simp [World.cell?, Array.getElem?_eq_none h'] at hc
  exact ⟨bm, n, (hb.cell (p := ⟨g, 0, none⟩) hg).trans hc, es, clock, (hb.block bm hl).trans hb', F, hn, hD⟩

structure G (w : World) : Prop where
  utf8 : Lib.Utf8Tabs 3 4 w
  cases : Lib.CaseVar 5 Lib.caseA w
  esc : HoldsMap Tryz.prog 5 5 1 escData w
  cod : HoldsMap Tryz.prog 5 3 2 codData w

theorem cell_lt {w : World} {g o : Nat} {v : Value} (hc : w.cell? ⟨g, o, none⟩ = some v) : g < w.heap.size := by
  rcases Nat.lt_or_ge g w.heap.size with h' | h'
  · exact h'
  · simp [World.cell?, Array.getElem?_eq_none h'] at hc

theorem cell_below {w w' : World} (hb : Below w.heap.size w w') {g o : Nat} {v : Value} (hc : w.cell? ⟨g, o, none⟩ = some v) : w'.cell? ⟨g, o, none⟩ = some v :=
  (hb.cell (p := ⟨g, o, none⟩) (cell_lt hc)).trans hc

theorem caseTab_below {R oR : Nat} {T : Array Lib.CaseRow} {w w' : World} (h : Lib.CaseTab R oR T w) (hb : Below w.heap.size w w') : Lib.CaseTab R oR T w' := fun i hi => by
  obtain ⟨h0, h1, h2, h3, h4⟩ := h i hi
  exact ⟨cell_below hb h0, cell_below hb h1, cell_below hb h2, cell_below hb h3, cell_below hb h4⟩

theorem G.below {w w' : World} (h : G w) (hb : Below w.heap.size w w') : G w' where
  utf8 := ⟨fun c hc => cell_below hb (h.utf8.1 c hc), fun i hi => ⟨cell_below hb (h.utf8.2 i hi).1, cell_below hb (h.utf8.2 i hi).2⟩⟩
  cases := by
    obtain ⟨R, oR, cap, hc, ht⟩ := h.cases
    exact ⟨R, oR, cap, cell_below hb hc, caseTab_below ht hb⟩
  esc := h.esc.below hb
  cod := h.cod.below hb

theorem G.at {w w' : World} (h : G w) (hb : Below w.heap.size w w') : Aside0 (G w') := ⟨h.below hb⟩

end Go.Proofs.YtnmofpefofkoeaaGreatDoor
