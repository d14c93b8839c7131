/- quote.each: the iterator over a text's runes with their bytes: its contract over whatever loop. Its premise: what the laid variables hold. -/
import Derived.RangeFuncNested
import Derived.RangeFuncBound
import Derived.RangeFuncCalls
import Derived.RangeFuncLeaves
import Derived.Shelf.Abstract
import Derived.WalkKit
import Derived.OwnWalkIn
import Derived.TacticsInMore
import Derived.LoopNIn
import Derived.LoopIn
import Derived.WalkSpells
import Derived.Test.YtcpknkdnboiecaaDoorRangeS
import Derived.Test.YtcpknkdnboiecaaDoorFQuoteDecode
namespace Go.Proofs.YtcpknkdnboiecaaDoor
open Go Go.RowKit Go.Shelf Go.Proofs.YtcpknkdnboiecaaDoorW.PrintWords Go.Proofs.YtcpknkdnboiecaaDoor.P
attribute [local go_sem] Oper.semAt_some

abbrev pieceVals (x : Int × ByteArray) : Array Value := #[.int .i32 x.1, .string x.2]

/-- What a round must keep for the iterator. -/
def EachKp (n₀ Bs : Nat) (W W' : World) : Prop :=
  Below n₀ W W' ∧ (∀ v, W.cell? ⟨Bs, 0, none⟩ = some v → W'.cell? ⟨Bs, 0, none⟩ = some v ∧ (W.frozen? ⟨Bs, 0, none⟩ = false → W'.frozen? ⟨Bs, 0, none⟩ = false))
/-- What the iterator may do between two rounds. -/
def EachSt (Bs : Nat) (A B : World) : Prop := Below A.heap.size A B ∨ ∃ v : ByteArray, B = A.setCell ⟨Bs, 0, none⟩ (.string v)

def leftAt (Bs : Nat) (W : World) : Nat := match W.cell? ⟨Bs, 0, none⟩ with
  | some (.string v) => v.size
  | _ => 0
theorem leftAt_eq {Bs : Nat} {W : World} {v : ByteArray} (h : W.cell? ⟨Bs, 0, none⟩ = some (.string v)) : leftAt Bs W = v.size := by simp [leftAt, h]

theorem frozen_below {w w' : World} (hb : Below w.heap.size w w') {g o : Nat} (hg : g < w.heap.size) (hf : w.frozen? ⟨g, o, none⟩ = false) : w'.frozen? ⟨g, o, none⟩ = false :=
  (hb.frozen (p := ⟨g, o, none⟩) hg).trans hf

theorem size_zero {s : ByteArray} (h : s.toList = []) : s.size = 0 := by
  rw [ByteArray.toList_eq] at h
  have := congrArg List.length h
  rw [Array.length_toList] at this
  exact this
theorem toList_nil {s : ByteArray} (h : s.size = 0) : s.toList = [] := by
  rw [ByteArray.toList_eq]
  exact List.eq_nil_of_length_eq_zero (by rw [Array.length_toList]; exact h)

theorem decode_some {s : ByteArray} (h : s.size ≠ 0) : quote_Decode.f s = some (((Lib.decodeGo s).1 : Int), ((Lib.decodeGo s).2 : Int)) := by
  unfold quote_Decode.f
  rw [if_neg (fun e => h (size_zero e))]
  rfl

set_option maxRecDepth 100000 in
theorem each_calls (s : ByteArray) (w : World) : Calls Tryd.prog 26 #[.string s] w fun e w' =>
    e = .returned (.func (.func 39) #[] #[.pointer (some ⟨w.heap.size, 0, none⟩)]) ∧ w' = w.alloc (.cells #[.string s] 9) := by
  go_enter Tryd.func26, Tryd.ntmps26
  go_wp2
  go_ret
  exact ⟨rfl, rfl⟩

set_option maxRecDepth 100000 in
set_option maxHeartbeats 2000000 in
theorem each1_steps (n : Nat) (hn : 1 ≤ n) (s : ByteArray) (hs : s.size ≤ 140737488351232) (Bs : Nat) (w0 w : World) (hG : Aside0 (G w0)) (hb : Below w0.heap.size w0 w) (hle : w0.heap.size ≤ Bs)
    (hc : w.cell? ⟨Bs, 0, none⟩ = some (.string s)) (hf : w.frozen? ⟨Bs, 0, none⟩ = false) :
    SeqSteps Fence.wide n Tryd.prog 39 #[.pointer (some ⟨Bs, 0, none⟩)] pieceVals (EachKp w0.heap.size Bs) (EachSt Bs) (fun xs => xs = piecesOf s) (fun _ => True) (fun pre x => pre ++ [x] <+: piecesOf s) w :=
  fun l J Jx W hW hJ hJx hY h0 => by
  have hcW : W.cell? ⟨Bs, 0, none⟩ = some (.string s) := cell_below hW hc
  have hfW : W.frozen? ⟨Bs, 0, none⟩ = false := frozen_below hW (cell_lt hc) hf
  have hbW : Below w0.heap.size w0 W := hb.trans (hW.mono hb.size)
  refine callsIn_of_wp Tryd.func39 rfl trivial ?_ rfl
  simp only [Tryd.ntmps39, List.size_toArray, List.length_cons, List.length_nil, Nat.reduceAdd, Nat.reduceSub, Array.replicate_succ, Array.replicate_zero, List.push_toArray, List.append_toArray, List.nil_append, List.cons_append]
  clear hc hf hb hW
  gi_wp2
  gi_loopw [3, 4] (fun _ _ wr => ∃ (pre : List (Int × ByteArray)) (rest : ByteArray), Aside0 (piecesOf s = pre ++ piecesOf rest) ∧ rest.size ≤ 140737488351232 ∧ wr.cell? ⟨Bs, 0, none⟩ = some (.string rest) ∧ wr.frozen? ⟨Bs, 0, none⟩ = false ∧ Aside0 (Below w0.heap.size w0 wr) ∧ J pre wr)
    (fun _ _ wr => leftAt Bs wr)
  case atStart => exact ⟨[], s, ⟨rfl⟩, hs, hcW, hfW, ⟨hbW⟩, h0⟩
  case round =>
    obtain ⟨pre, rest, hp, hrs, hcr, hfr, hbr, hJr⟩ := hrel
    clear hcW hfW hbW h0
    by_cases hz : rest.size = 0
    · have t0 : rest.toList = [] := toList_nil hz
      have t1 : (rest.toList == ([] : List UInt8)) = true := by rw [t0]; rfl
      have t2 : rest.toList.isEmpty = true := by rw [t0]; rfl
      have hp' : Aside0 (piecesOf s = pre) := ⟨by rw [hp.out, piecesOf_nil rest hz, List.append_nil]⟩
      clear hz hp
      gi_wp2
      go_end0
      exact ⟨⟨_, rfl⟩, .inl ⟨pre, hp'.out.symm, hJr⟩⟩
    · have hn0 : rest.toList ≠ [] := fun e => hz (size_zero e)
      have t1 : (rest.toList == ([] : List UInt8)) = false := beq_eq_false_iff_ne.mpr hn0
      have t2 : rest.toList.isEmpty = false := by cases h : rest.toList with | nil => exact absurd h hn0 | cons _ _ => rfl
      have hd := Aside0.mk (decode_some hz)
      have hcr0 := Aside0.mk hcr
      have hbd := decodeGo_bounds rest hz
      have hpc := Aside0.mk (piecesOf_cons rest hz)
      generalize Lib.decodeGo rest = dd at hd hbd hpc
      obtain ⟨dr, dn⟩ := dd
      obtain ⟨hb1, hb2, hb3, hb4⟩ := hbd
      have hb1' : 1 ≤ dn := hb1
      have hb2' : dn ≤ rest.size := hb2
      have hb4' : dr ≤ 1114111 := hb4
      clear hz hb1 hb2 hb3 hb4
      gi_wp2_with (refine ⟨trivial, ?_⟩; gi_at_call 18; refine (callsIn_wide.2 (quote_Decode.calls rest dr dn _ (G.at hG.out (by exact hbr.out)) hd.out)).mono ?_; rintro e w2 ⟨rfl, hb2⟩; have hc2 := cell_below hb2 hcr; have hf2 := frozen_below hb2 (cell_lt hcr) hfr; have hJ2 := hJ _ _ _ hJr (.inl hb2); have hb3 := Aside0.mk (hbr.out.trans (hb2.mono hbr.out.size)); clear hb2 hbr hcr hfr hJr; obtain ⟨fn, tmps, assign, body, hy, hR⟩ := hY pre ((dr : Int), rest.extract 0 dn) w2 hJ2 (by rw [hp.out, hpc.out]; exact ⟨piecesOf (rest.extract dn rest.size), by simp⟩); dsimp only [pieceVals] at hy; clear hY)
      refine hR.mono ?_
      rintro e W3 (⟨rfl, hJ3, hk3⟩ | ⟨rfl, hJx3⟩)
      · obtain ⟨hc3, hf3'⟩ := hk3.2 _ hc2
        have hf3 := hf3' hf2
        have hb4 := Aside0.mk (hb3.out.trans hk3.1)
        clear hc2 hf2 hf3' hk3 hb3 hJ2 hR hy
        gi_wp2
        go_roundw
        case rel => exact ⟨pre ++ [((dr : Int), rest.extract 0 dn)], rest.extract dn rest.size, ⟨by rw [hp.out, hpc.out]; simp⟩, by rw [extract_size]; omega, World.cell?_setCell_same' _ _ _ (by rw [hc3]; rfl), by rw [World.frozen?_setCell]; exact hf3, ⟨hb4.out.setCell (p := ⟨Bs, 0, none⟩) hle _⟩, hJ _ _ _ hJ3 (.inr ⟨_, rfl⟩)⟩
        case measure =>
          rw [leftAt_eq (World.cell?_setCell_same' _ _ _ (by rw [hc3]; rfl)), leftAt_eq hcr0.out, extract_size]
          omega
      · gi_wp2
        refine bodyPost_ret (results_none rfl _ _ _) rfl ?_
        exact ⟨⟨_, rfl⟩, .inr ⟨_, trivial, hJx3⟩⟩
end Go.Proofs.YtcpknkdnboiecaaDoor
