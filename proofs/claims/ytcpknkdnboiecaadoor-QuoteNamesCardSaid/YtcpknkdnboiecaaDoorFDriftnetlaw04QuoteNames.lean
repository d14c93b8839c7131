/- QuoteNames: ranging over a text tells the same runes: walked whole. Its conditions: what the laid variables hold; the text's size. -/
import Derived.Test.YtcpknkdnboiecaaDoorKinds
import Derived.Test.YtcpknkdnboiecaaDoorWorks
import Derived.Test.YtcpknkdnboiecaaDoorRunes
import Derived.Laws.RangeAny
import Derived.LoopTactic
set_option linter.unusedVariables false
namespace Go.Proofs.YtcpknkdnboiecaaDoor
open Go Go.RowKit Go.Proofs.YtcpknkdnboiecaaDoorW.PrintWords Go.Proofs.YtcpknkdnboiecaaDoorW.PrintLast Go.Proofs.YtcpknkdnboiecaaDoorW.PrintMore Go.Lib
attribute [local go_sem] max2_int min2_int max_two min_two max_three min_three max_four min_four

theorem decode_drop (s : ByteArray) (pos : Nat) : Utf8.decode s pos = decodeL (s.data.toList.drop pos) := by
  rw [decode_N, decodeL_N, List.length_drop]
  have g : ∀ i, (s.data.toList.drop pos).getD i 0 = s.data.toList.getD (pos + i) 0 := fun i => by simp [List.getD, List.getElem?_drop]
  have g0 : (s.data.toList.drop pos).getD 0 0 = s.data.toList.getD pos 0 := by simp [List.getD, List.getElem?_drop]
  rw [g0, g 1, g 2, g 3]

theorem decodeGo_data (T : ByteArray) (h : T.size ≠ 0) : decodeGo T = decodeL T.data.toList := by
  have e : T = ⟨T.data.toList.toArray⟩ := ba_ext rfl
  have hne : T.data.toList ≠ [] := fun e2 => by have := ba_len T; rw [e2] at this; exact h this.symm
  have := decodeGo_list T.data.toList hne
  rw [← e] at this
  exact this
theorem extract_all (s : ByteArray) (pos : Nat) : (s.extract pos s.size).data.toList = s.data.toList.drop pos := by
  rw [ba_extract, List.take_of_length_le (by rw [ba_len]; exact Nat.le_refl _)]
theorem pieces_at (s : ByteArray) (pos : Nat) (h : pos < s.size) : 1 ≤ (Utf8.decode s pos).2 ∧ pos + (Utf8.decode s pos).2 ≤ s.size ∧
    ∃ b, piecesOf (s.extract pos s.size) = (((Utf8.decode s pos).1 : Int), b) :: piecesOf (s.extract (pos + (Utf8.decode s pos).2) s.size) := by
  have hsz : (s.extract pos s.size).size = s.size - pos := by rw [ByteArray.size_extract]; omega
  have hd := extract_all s pos
  have h0 : (s.extract pos s.size).size ≠ 0 := by omega
  have hpc := piecesOf_cons _ h0
  have hb := decodeGo_bounds _ h0
  have hg := decodeGo_data _ h0
  rw [hd, ← decode_drop] at hg
  rw [hg] at hpc hb
  have he : (s.extract pos s.size).extract (Utf8.decode s pos).2 (s.extract pos s.size).size = s.extract (pos + (Utf8.decode s pos).2) s.size := by
    refine ba_ext ?_
    rw [extract_all, hd, extract_all, List.drop_drop]
  rw [he] at hpc
  exact ⟨hb.1, by omega, _, hpc⟩

/-- What holds when the range has come to place pos, k runes behind it. -/
def NamesAt (s : ByteArray) (k pos : Nat) : Prop := pos ≤ s.size ∧ k ≤ (piecesOf s).length ∧ piecesOf (s.extract pos s.size) = (piecesOf s).drop k
theorem namesAt_start (s : ByteArray) : NamesAt s 0 0 := by
  refine ⟨Nat.zero_le _, Nat.zero_le _, ?_⟩
  rw [List.drop_zero]
  congr 1
  refine ba_ext ?_
  rw [ba_extract, List.drop_zero, List.take_of_length_le (by rw [ba_len]; exact Nat.le_refl _)]
theorem namesAt_step (s : ByteArray) (k pos : Nat) (h : NamesAt s k pos) (hp : pos < s.size) : ∃ hk : k < (piecesOf s).length, ((piecesOf s)[k]'hk).1 = ((Utf8.decode s pos).1 : Int) ∧ NamesAt s (k + 1) (pos + (Utf8.decode s pos).2) := by
  obtain ⟨h1, h2, bb, h3⟩ := pieces_at s pos hp
  have e := h.2.2
  rw [h3] at e
  have hk : k < (piecesOf s).length := by
    rcases Nat.lt_or_ge k (piecesOf s).length with hk | hk
    · exact hk
    · rw [List.drop_eq_nil_of_le hk] at e; cases e
  rw [List.drop_eq_getElem_cons hk] at e
  have e1 := (List.cons.inj e).1
  refine ⟨hk, ?_, h2, hk, (List.cons.inj e).2⟩
  rw [← e1]
theorem namesAt_end (s : ByteArray) (k pos : Nat) (h : NamesAt s k pos) (hp : ¬ pos < s.size) : k = (piecesOf s).length := by
  have e := h.2.2
  have hz : (s.extract pos s.size).size = 0 := by rw [ByteArray.size_extract]; omega
  rw [piecesOf_nil _ hz] at e
  have := congrArg List.length e
  rw [List.length_nil, List.length_drop] at this
  have := h.2.1
  omega

theorem row_slice {w : World} {B e n : Nat} {v : Value} {xs : List Value} (h : w.ownsRow B e 1 v n xs) : ∃ a cap, v = .slice a n cap ∧ ∀ j, j < n → ∃ g, a = some ⟨g, 0, none⟩ ∧ w.cell? ⟨g, j, none⟩ = xs[j]? := by
  rcases h.2 with ⟨rfl, rfl⟩ | ⟨g, cap, cur, rfl, _⟩
  · exact ⟨none, 0, rfl, fun j hj => absurd hj (by omega)⟩
  · refine ⟨_, cap, rfl, fun j hj => ⟨g, rfl, ?_⟩⟩
    exact h.cellAt j (by omega)

set_option maxRecDepth 100000 in
set_option maxHeartbeats 4000000 in
theorem names_calls (s0 : ByteArray) (hs : s0.size ≤ 140737488351232) (w : World) (hG : Aside0 (G w)) :
    Calls Tryd.prog 7 #[.string s0] w fun e w' => e = .returned (.bool true) ∧ Below w.heap.size w w' := by
  obtain ⟨j, hj⟩ : ∃ j : Int, mn (s0.size : Int) 2000 = j := ⟨_, rfl⟩
  have hj_ : (if 2000 < (s0.size : Int) then 2000 else (s0.size : Int)) = j := hj
  have j0 : 0 ≤ j := by rw [← hj]; unfold mn; split <;> omega
  have j1 : j ≤ (s0.size : Int) := by rw [← hj]; unfold mn; split <;> omega
  have j2 : j ≤ 2000 := by rw [← hj]; unfold mn; split <;> omega
  have hss : (s0.extract 0 j.toNat).size ≤ 2000 := by rw [ByteArray.size_extract]; omega
  obtain ⟨s, hsx⟩ : ∃ s, s0.extract 0 j.toNat = s := ⟨_, rfl⟩
  rw [hsx] at hss
  have HN := namesAt_start s
  have HNA := Aside0.mk HN
  have HW : ∀ W, Below w.heap.size w W → Calls Tryd.prog 13 #[] W fun e w' => e = .returned (.bool true) ∧ Below W.heap.size W w' := fun W hb => P.driftnetlaw04_works.calls true W ⟨hG.out.below hb⟩ works_true
  have HR : ∀ W, Below w.heap.size w W → Calls Tryd.prog 19 #[.string s] W fun e w' => ∃ v, e = .returned v ∧ w'.ownsRow W.heap.size 21 1 v (piecesOf s).length ((piecesOf s).map fun x => .int .i32 x.1) ∧ Below W.heap.size W w' := fun W hb => runes_calls s (by omega) W ⟨hG.out.below hb⟩
  have hpl := piecesOf_length s
  clear hj HN
  go_enter Tryd.func7, Tryd.ntmps7
  go_wp2_with (first
    | (go_at_call 13; (with_reducible refine (HW _ (Below.refl _ _)).mono ?_); rintro e w1 ⟨rfl, hb1⟩; have HB1 := Aside0.mk hb1; clear hb1)
    | (go_at_call 19; (with_reducible refine (HR _ HB1.out).mono ?_); rintro e w2 ⟨v, rfl, hrow, hb2⟩; obtain ⟨av, cap, rfl, hcl⟩ := row_slice hrow; have HCL := Aside0.mk hcl; clear hrow hcl; have HB2 := Aside0.mk (below_step HB1.out hb2); clear hb2))
  go_loopw [4] (fun vi wr => ∃ k pos : Nat, vi = .int .i64 k ∧ wr = w2.iter s pos ∧ Aside0 (NamesAt s k pos)) (fun _ wr => s.size - wr.iterPos w2.heap.size)
  case atStart => exact ⟨0, 0, rfl, rfl, HNA⟩
  case round =>
    clear HNA HW HR
    obtain ⟨k, pos, rfl, rfl, HK⟩ := hrel
    by_cases hp : pos < s.size
    · have hnx := fun ty => run_next_any (P := Tryd.prog) w2 s pos ty hp
      obtain ⟨hk, he, hN2⟩ := namesAt_step s k pos HK.out hp
      have hpos := pieces_at s pos hp
      have HP := Aside0.mk hpos.1
      have HN2 := Aside0.mk hN2
      obtain ⟨g, rfl, hg⟩ := HCL.out k hk
      rw [List.getElem?_map, List.getElem?_eq_getElem hk, Option.map_some, he] at hg
      have hcell : ∀ pos', (w2.iter s pos').cell? ⟨g, k, none⟩ = some (.int .i32 ((Utf8.decode s pos).1 : Int)) := fun pos' => (World.iter_extends w2 s pos').cell_of hg
      obtain ⟨n, hn⟩ : ∃ n, n = (piecesOf s).length := ⟨_, rfl⟩
      rw [← hn] at hk hpl ⊢
      have hkI : (k : Int) < (n : Int) := by omega
      have hkd : decide ((n : Int) ≤ (k : Int)) = false := decide_eq_false (by omega)
      clear hN2 hpos he hg hn HK
      go_wp2
      refine ⟨⟨k + 1, pos + (Utf8.decode s pos).2, by first | rfl | (congr 1; omega), rfl, HN2⟩, ?_⟩
      have := HP.out
      rw [World.iterPos_iter, World.iterPos_iter]
      omega
    · have hnx := fun ty => run_next_end (P := Tryd.prog) w2 s pos ty hp
      have hk := namesAt_end s k pos HK.out hp
      clear HK
      subst hk
      go_wp2
      go_ret
      exact ⟨rfl, HB2.out.alloc HB2.out.size _⟩
end Go.Proofs.YtcpknkdnboiecaaDoor
namespace Go.Proofs.YtcpknkdnboiecaaDoor.P
open Go Go.RowKit Go.Proofs.YtcpknkdnboiecaaDoorW.PrintWords
/-- Nothing is left to the plain law: the walk shows it all. -/
def driftnetlaw04_QuoteNames.Pure : Prop := True
theorem driftnetlaw04_QuoteNames.walk (P : driftnetlaw04_QuoteNames.Pure) (a0 : ByteArray) (w : World) (hG : Aside0 (G w)) (w0 : a0.size ≤ 140737488351232) :
    Calls Tryd.prog 7 #[.string a0] w fun e w' => e = .returned (.bool true) ∧ Below w.heap.size w w' := names_calls a0 w0 w hG
end Go.Proofs.YtcpknkdnboiecaaDoor.P
