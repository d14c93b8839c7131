/- strings.Builder: what its writers do, by the library's contracts, and how a builder stands through other steps. No condition. -/
import Derived.Test.YtnmofpefofkoeaaGreatDoorG
import Derived.RangeFuncBox
set_option linter.unusedVariables false
namespace Go.Proofs.YtnmofpefofkoeaaGreatDoor
open Go Go.RowKit Go.Shelf Go.Lib

/-- A builder of the call's own at block b that holds the bytes l. -/
abbrev Bld (B b : Nat) (l : List UInt8) (w : World) : Prop := Lib.IsBuilderF 62 5 B b (Lib.byteCells l) w

theorem bld_new (w : World) : Bld w.heap.size w.heap.size [] (w.alloc (.cells #[.pointer none, .slice none 0 0] 62)) := Lib.IsBuilderF.of (Lib.fresh_isBuilder _ _ w)

theorem byteCells_append (a b : List UInt8) : Lib.byteCells (a ++ b) = Lib.byteCells a ++ Lib.byteCells b := by simp [Lib.byteCells]
theorem byteCells_len (a : List UInt8) : (Lib.byteCells a).length = a.length := by simp [Lib.byteCells]

theorem bld_WriteByte (B b : Nat) (l : List UInt8) (c : UInt8) (w : World) (h : Bld B b l w) (hlen : l.length + 1 ≤ 140737488355328) (hBw : B ≤ w.heap.size) :
    Calls Tryz.prog 36 #[.pointer (some ⟨b, 0, none⟩), .int .u8 c.toNat] w fun e w' => e = .returned .nilIface ∧ Bld B b (l ++ [c]) w' ∧ Below B w w' ∧ Lib.OthersKept 5 (some b) w w' := by
  refine (Any.Builder_WriteByte_k (ρ := Tryz.lays230_ren) { Tryz.lays230 with } Tryz.Builder_Extra_230 B b (Lib.byteCells l) (c.toNat : Int) w h (by rw [byteCells_len]; exact hlen) hBw).mono ?_
  rintro e w' ⟨rfl, h1, h2, h3⟩
  refine ⟨rfl, .inr ?_, h2, h3⟩
  rw [byteCells_append]
  exact h1

theorem bld_WriteString (B b : Nat) (l : List UInt8) (s : ByteArray) (w : World) (h : Bld B b l w) (hlen : l.length + s.size ≤ 140737488355328) (hBw : B ≤ w.heap.size) :
    Calls Tryz.prog 38 #[.pointer (some ⟨b, 0, none⟩), .string s] w fun e w' => e = .returned (.tuple #[.int .i64 s.size, .nilIface]) ∧ Bld B b (l ++ s.data.toList) w' ∧ Below B w w' ∧ Lib.OthersKept 5 (some b) w w' := by
  refine (Any.Builder_WriteString_k (ρ := Tryz.lays230_ren) { Tryz.lays230 with } Tryz.Builder_Extra_230 B b (Lib.byteCells l) s w h (by rw [byteCells_len]; exact hlen) hBw).mono ?_
  rintro e w' ⟨rfl, h1, h2, h3⟩
  refine ⟨rfl, .inr ?_, h2, h3⟩
  rw [byteCells_append]
  exact h1

theorem bld_String (B b : Nat) (l : List UInt8) (w : World) (h : Bld B b l w) (hBw : B ≤ w.heap.size) :
    Calls Tryz.prog 39 #[.pointer (some ⟨b, 0, none⟩)] w fun e w' => e = .returned (.string ⟨l.toArray⟩) ∧ Bld B b l w' ∧ Below B w w' ∧ Lib.OthersKept 5 (some b) w w' :=
  Tryz.Builder_String_any_k B b l w h hBw

section
variable {T e B b : Nat} {bs : List Value}

theorem bldF_map {w w' : World} (h : Lib.IsBuilderF T e B b bs w) (hs : ∀ k c f, w.heap[k]? = some (.cells c T f) → k = b → w'.heap[k]? = some (.cells c T f))
    (hr : ∀ v n xs, v.ownBlock ≠ some b → w.ownsRowF B e 1 v n xs → w'.ownsRowF B e 1 v n xs) : Lib.IsBuilderF T e B b bs w' := by
  rcases h with ⟨hB, v, hb, hown, hne⟩ | ⟨hB, v, hb, hown, hne⟩
  · exact .inl ⟨hB, v, hs _ _ _ hb rfl, hr _ _ _ hne hown, hne⟩
  · exact .inr ⟨hB, v, hs _ _ _ hb rfl, hr _ _ _ hne hown, hne⟩

theorem rowF_below {w w' : World} {v : Value} {n : Nat} {xs : List Value} (h : w.ownsRowF B e 1 v n xs) (hb : Below w.heap.size w w') : w'.ownsRowF B e 1 v n xs := by
  refine ⟨h.1, ?_⟩
  rcases h.2 with h' | ⟨g, cap, cur, fz, h1, h2, h3, h4⟩
  · exact .inl h'
  · exact .inr ⟨g, cap, cur, fz, h1, h2, (hb.block g (Array.getElem?_eq_some_iff.1 h3).1).trans h3, h4⟩

/-- A builder stands where nothing that lay has turned. -/
theorem bldF_below {w w' : World} (h : Lib.IsBuilderF T e B b bs w) (hb : Below w.heap.size w w') : Lib.IsBuilderF T e B b bs w' :=
  bldF_map h (fun k _ _ hk _ => (hb.block k (Array.getElem?_eq_some_iff.1 hk).1).trans hk) (fun _ _ _ _ hr => rowF_below hr hb)

/-- .. and where a block that is no cells has turned. -/
theorem bldF_grown {w w' : World} {row : Option Nat} (h : Lib.IsBuilderF T e B b bs w) (hg : w.grownBy w' row) (hrow : ∀ r, row = some r → ∃ o : Obj, w.heap[r]? = some o ∧ o.isCells = false) : Lib.IsBuilderF T e B b bs w' := by
  refine bldF_map h (fun k c f hk _ => (hg.block k (Array.getElem?_eq_some_iff.1 hk).1 fun e' => ?_).trans hk) (fun v n xs _ hr => hr.kept hg ?_)
  · obtain ⟨o, ho, hc⟩ := hrow k e'.symm
    rw [hk] at ho; cases ho; cases hc
  · rcases hr.2 with ⟨rfl, _⟩ | ⟨g, cap, cur, fz, rfl, _, hgb, _⟩
    · exact .inl rfl
    · refine .inr fun e' => ?_
      obtain ⟨o, ho, hc⟩ := hrow g (by simpa [Value.ownBlock] using e'.symm)
      rw [hgb] at ho; cases ho; cases hc

/-- .. and where a variable's box of another type is written. -/
theorem bldF_box {w : World} {C t : Nat} {u : Value} (h : Lib.IsBuilderF T e B b bs w) (hx : Boxed w C t u) (hT : t ≠ T) (he : t ≠ e) (v' : Value) : Lib.IsBuilderF T e B b bs (w.setCell ⟨C, 0, none⟩ v') := by
  refine bldF_map h (fun k c f hk _ => (Below.heap_setCell _ _ _ k fun e' => ?_).trans hk) (fun v n xs _ hr => hr.kept (grownBy_setCell' w C v') ?_)
  · have e2 : k = C := e'
    subst e2
    have := (show w.heap[k]? = _ from hx).symm.trans hk
    simp at this
    exact hT this.2.1
  · rcases hr.2 with ⟨rfl, _⟩ | ⟨g, cap, cur, fz, rfl, _, hgb, _⟩
    · exact .inl rfl
    · refine .inr fun e' => ?_
      have e2 : g = C := by simpa [Value.ownBlock] using e'
      subst e2
      have := (show w.heap[g]? = _ from hx).symm.trans hgb
      simp at this
      exact he this.2.1
end

/-- A box stands where only the builder and rows of bytes have turned. -/
theorem Boxed.others {w w' : World} {C t e b : Nat} {u : Value} (h : Boxed w C t u) (k : Lib.OthersKept e (some b) w w') (hne : C ≠ b) (he : t ≠ e) : Boxed w' C t u := by
  refine k C _ h (by simpa using hne) (fun c fz hx => ?_)
  simp at hx
  exact he hx.2.1

end Go.Proofs.YtnmofpefofkoeaaGreatDoor
