/- slices.Insert of '_' ahead of bytes, whole, and labels.Clean: a name of any text. Its condition: the text is no longer than a million bytes. -/
import Derived.Test.YtnmofpefofkoeaaGreatDoorInsertB
import Derived.Test.YtnmofpefofkoeaaGreatDoorInsert2
import Derived.Test.YtnmofpefofkoeaaGreatDoorFLabelsInName
import Derived.Test.YtnmofpefofkoeaaGreatDoorFLabelsIsDigit
import Derived.Laws.IdiomStrings
import Derived.Lib.JoinLaws
import Derived.Deep.LoopGhost
set_option linter.unusedVariables false
namespace Go.Proofs.YtnmofpefofkoeaaGreatDoor
open Go Go.RowKit Go.Lib Go.Proofs.YtnmofpefofkoeaaGreatDoorW.PrintWords Go.Proofs.YtnmofpefofkoeaaGreatDoorW.PrintLast Go.Proofs.YtnmofpefofkoeaaGreatDoorW.PrintMore Go.Proofs.YtnmofpefofkoeaaGreatDoor.P

def bv (c : UInt8) : Value := .int .u8 (c.toNat : Int)
theorem bv_one (l : List UInt8) : ∀ v ∈ l.map bv, v.oneCell' = true := by
  intro v hv
  obtain ⟨c, _, rfl⟩ := List.mem_map.1 hv
  rfl

set_option maxRecDepth 100000 in
set_option maxHeartbeats 4000000 in
/-- At an empty row. -/
theorem insertB_end (base g cap vb : Nat) (fr : Nat × Nat) (zs : List Value) (hz : zs.length = cap) (hfr : fr = (0, 0) ∨ cap ≤ fr.1) (hcm : cap ≤ maxLen) (w0 w : World)
    (hg : w.heap[g]? = some (.cells zs.toArray 5 fr)) (hv : w.heap[vb]? = some (.cells #[.int .u8 95] 5 (0, 0))) (hvg : vb ≠ g) (hbg : base ≤ g) (hbase : base ≤ w.heap.size) (hB : Below base w0 w) :
    Calls Tryz.prog 35 #[.slice (some ⟨g, 0, none⟩) 0 cap, .int .i64 0, .slice (some ⟨vb, 0, none⟩) 1 1] w fun e w' =>
      ∃ g2 c2, e = .returned (.slice (some ⟨g2, 0, none⟩) 1 c2) ∧ 1 ≤ c2 ∧ c2 ≤ maxLen ∧ w'.cell? ⟨g2, 0, none⟩ = some (.int .u8 95) ∧ Below base w0 w' := by
  have hc63 : cap ≤ 9223372036854775807 := hcm
  have hsrc : Src Tryz.prog 1 29 (.slice (some ⟨vb, 0, none⟩) 1 1) 1 [.int .u8 95] w := Src.ofSlice w Tryz.underlying29 ⟨vb, 0, none⟩ 1 1 [.int .u8 95] rfl (one_cell hv) (fun v hv => by simp at hv; subst hv; rfl)
  by_cases hr : 1 ≤ cap
  · have hsp : ∀ j, j < [Value.int .u8 95].length → (w.cell? ⟨g, 0 + 0 + j, none⟩).isSome = true := fun j hj => by
      rw [cell_of_blkB hg, List.getElem?_eq_getElem (by simp at hj; omega)]; rfl
    have hfz : ∀ j, j < [Value.int .u8 95].length → w.frozen? ⟨g, 0 + 0 + j, none⟩ = false := fun j hj => by
      simp at hj
      simp [World.frozen?, hg]
      rcases hfr with rfl | h
      · intro h; omega
      · intro h; omega
    have hin := World.cell?_setCells_in g [Value.int .u8 95] 0 w (fun j hj => by have := hsp j hj; simpa using this) 0 (by simp)
    have HBB : Aside0 (Below base w0 (w.setCells g 0 [.int .u8 95])) := ⟨hB.setCell hbg _⟩
    have HIN := Aside0.mk hin
    have HS := Aside0.mk hsrc
    have HSP := Aside0.mk hsp
    have HFZ := Aside0.mk hfz
    clear hB hin hsrc hsp hfz hg hv
    go_enter Tryz.func35, Tryz.ntmps35
    by_cases hc0 : cap = 0
    · omega
    go_wp2_with ((with_reducible refine gate_builtin (b := .append) (xs := #[.tmp 23, .tmp 24]) rfl ?_); at_builtin; refine wpList_append_room1 _ rfl _ _ 29 29 rfl 5 _ _ Tryz.underlying29 infoU8 g 0 0 cap rfl _ rfl 1 [.int .u8 95] HS.out hr HSP.out HFZ.out ?_)
    go_ret
    exact ⟨g, cap, rfl, hr, hcm, HIN.out, HBB.out⟩
  · have hc0 : cap = 0 := by omega
    subst hc0
    have hz0 : zs = [] := List.eq_nil_of_length_eq_zero hz
    obtain ⟨i0, hi0, hzz⟩ := Option.map_eq_some_iff.1 infoU8
    simp only [Prod.mk.injEq] at hzz
    obtain ⟨hz0', hzs, hzb⟩ := hzz
    have hold : (Builtin.firstCells i0.size 0 (.slice (some ⟨g, 0, none⟩) 0 0)).run Tryz.prog w.drew = .ok ([] : List Value).toArray w.drew := by
      rw [hzs]
      exact run_firstCells_some w.drew 1 0 ⟨g, 0, none⟩ 0 0 [] rfl (fun j v hj => by simp at hj)
    have hrun : ∀ ty, (Builtin.append_ #[29, 29] ty #[.slice (some ⟨g, 0, none⟩) 0 0, .slice (some ⟨vb, 0, none⟩) 1 1]).run Tryz.prog w = _ := fun ty =>
      run_append_grow_src w 29 29 ty 5 i0 _ Tryz.underlying29 hi0 hz0' (some ⟨g, 0, none⟩) 0 0 [] hold _ 1 [.int .u8 95] (by rw [hzs]; exact hsrc) (by omega) (by omega) (by rw [hzb]; exact growslice_fits (by omega) (by omega))
    have hGn : 0 + 1 ≤ grownCap w (0 + 1) 0 5 := grownCap_ge w _ _ _
    have hG63 : grownCap w (0 + 1) 0 5 ≤ maxLen := grownCap_le_maxLen w (0 + 1) 0 5 (by unfold maxLen; omega)
    generalize grownCap w (0 + 1) 0 5 = G at hrun hGn hG63
    generalize hrow : (([] : List Value) ++ [Value.int .u8 95]).toArray ++ Builtin.zeroCells (Value.int .u8 0).cells (G - (0 + 1)) = row at hrun
    have hr0 : row[0]? = some (.int .u8 95) := by rw [← hrow, Array.getElem?_append_left (by simp)]; rfl
    obtain ⟨W1, hW1⟩ : ∃ W1, W1 = w.drew.alloc (.cells row 5) := ⟨_, rfl⟩
    rw [← hW1] at hrun
    have hN : W1.cell? ⟨w.heap.size, 0, none⟩ = some (.int .u8 95) := by rw [hW1]; exact (blk_cell (blk_new w.drew _) 0).trans hr0
    have HB1 : Aside0 (Below base w0 W1) := ⟨by rw [hW1]; exact below_then (below_drew1 hB) hbase (below_alloc (Below.refl _ _) _)⟩
    have HN := Aside0.mk hN
    clear hN hW1 hrow hr0 hold hg hv hsrc hB
    go_enter Tryz.func35, Tryz.ntmps35
    go_wp2_with ((with_reducible refine gate_builtin (b := .append) (xs := #[.tmp 23, .tmp 24]) rfl ?_); at_builtin; refine Lib.wpList_append_run _ rfl _ _ _ _ rfl _ _ rfl rfl _ _ (hrun _) ?_)
    go_ret
    exact ⟨_, G, rfl, by omega, hG63, HN.out, HB1.out⟩

theorem insertB_calls (base g cap vb : Nat) (fr : Nat × Nat) (m : List UInt8) (zs : List Value) (hz : m.length + zs.length = cap) (hml : m.length ≤ 1000000) (hfr : fr = (0, 0) ∨ cap ≤ fr.1) (hcm : cap ≤ maxLen) (w0 w : World)
    (hg : w.heap[g]? = some (.cells (m.map bv ++ zs).toArray 5 fr)) (hv : w.heap[vb]? = some (.cells #[.int .u8 95] 5 (0, 0))) (hvg : vb ≠ g) (hbg : base ≤ g) (hbase : base ≤ w.heap.size) (hB : Below base w0 w) :
    Calls Tryz.prog 35 #[.slice (some ⟨g, 0, none⟩) m.length cap, .int .i64 0, .slice (some ⟨vb, 0, none⟩) 1 1] w fun e w' =>
      ∃ g2 c2, e = .returned (.slice (some ⟨g2, 0, none⟩) (m.length + 1) c2) ∧ m.length + 1 ≤ c2 ∧ c2 ≤ maxLen ∧ (∀ j v, ((95 :: m).map bv)[j]? = some v → w'.cell? ⟨g2, j, none⟩ = some v) ∧ Below base w0 w' := by
  by_cases h0 : m.length = 0
  · obtain rfl : m = [] := List.eq_nil_of_length_eq_zero h0
    refine (insertB_end base g cap vb fr zs (by simpa using hz) hfr hcm w0 w (by simpa using hg) hv hvg hbg hbase hB).mono ?_
    rintro e w' ⟨g2, c2, rfl, h1, h2, h3, h4⟩
    refine ⟨g2, c2, rfl, h1, h2, fun j v hj => ?_, h4⟩
    cases j with
    | zero => simp [bv] at hj; subst hj; exact h3
    | succ j => simp at hj
  · have hcl : (m.map bv ++ zs).length = cap := by simpa using hz
    have htk : (m.map bv ++ zs).take m.length = m.map bv := by rw [List.take_append_of_le_length (by simp), List.take_of_length_le (by simp)]
    have hone : ∀ v ∈ (m.map bv ++ zs).take m.length, v.oneCell' = true := by rw [htk]; exact bv_one m
    have hfin : ∀ (rest : List Value) j v, ((95 :: m).map bv)[j]? = some v → ([Value.int .u8 95] ++ (m.map bv ++ rest))[j]? = some v := fun rest j v hj => by
      have hjl := (List.getElem?_eq_some_iff.1 hj).1
      rw [show [Value.int .u8 95] ++ (m.map bv ++ rest) = (95 :: m).map bv ++ rest from rfl, List.getElem?_append_left hjl]; exact hj
    by_cases hr : m.length + 1 ≤ cap
    · refine (insertB_shift base g cap m.length 0 vb (m.map bv ++ zs) fr (by rw [hcl]; exact hfr) w0 w (by omega) hr hcm hcl hone hg hv hvg hbg hB).mono ?_
      rintro e w' ⟨rfl, h1, h2⟩
      refine ⟨g, cap, rfl, hr, hcm, fun j v hj => ?_, h2⟩
      rw [cell_of_blkB h1, htk]
      unfold splice
      simp only [List.take_zero, List.nil_append, List.drop_zero, Nat.zero_add, List.length_cons, List.length_nil]
      rw [List.drop_append_of_le_length (by rw [List.length_take, hcl]; omega), List.drop_eq_nil_of_le (by rw [List.length_take]; omega), List.nil_append]
      exact hfin _ j v hj
    · refine (insertB_grow base g cap m.length 0 vb (m.map bv ++ zs) fr (by rw [hcl]; exact hfr) w0 w (by omega) (by omega) (by omega) hml hcl hone hg hv hbase hB).mono ?_
      rintro e w' ⟨G, row, rfl, h3, h4, h5, h6, h1, h2⟩
      refine ⟨_, G, rfl, h3, h4, fun j v hj => ?_, h2⟩
      rw [cell_of_blkB h1, htk]
      unfold splice
      simp only [List.take_zero, List.nil_append, List.drop_zero, Nat.zero_add, List.length_cons, List.length_nil]
      rw [List.take_append_of_le_length (by simp), List.take_of_length_le (by simp)]
      exact hfin _ j v hj

theorem insertB_at (n base g cap vb : Nat) (fr : Nat × Nat) (m : List UInt8) (hn : m.length = n) (zs : List Value) (hz : n + zs.length = cap) (hml : n ≤ 1000000) (hfr : fr = (0, 0) ∨ cap ≤ fr.1) (hcm : cap ≤ maxLen) (w0 w : World)
    (hg : w.heap[g]? = some (.cells (m.map bv ++ zs).toArray 5 fr)) (hv : w.heap[vb]? = some (.cells #[.int .u8 95] 5 (0, 0))) (hvg : vb ≠ g) (hbg : base ≤ g) (hbase : base ≤ w.heap.size) (hB : Below base w0 w) :
    Calls Tryz.prog 35 #[.slice (some ⟨g, 0, none⟩) n cap, .int .i64 0, .slice (some ⟨vb, 0, none⟩) 1 1] w fun e w' =>
      ∃ g2 N c2, e = .returned (.slice (some ⟨g2, 0, none⟩) N c2) ∧ N = n + 1 ∧ N ≤ c2 ∧ c2 ≤ maxLen ∧ (∀ j v, ((95 :: m).map bv)[j]? = some v → w'.cell? ⟨g2, j, none⟩ = some v) ∧ Below base w0 w' := by
  subst hn
  refine (insertB_calls base g cap vb fr m zs hz hml hfr hcm w0 w hg hv hvg hbg hbase hB).mono ?_
  rintro e w' ⟨g2, c2, h1, h2, h3, h4⟩
  exact ⟨g2, _, c2, h1, rfl, h2, h3, h4⟩
theorem take_min {α : Type} (M : List α) (N : Nat) (h : N = M.length) : M.take (min (N : Int) 64).toNat = M.take 64 := by
  by_cases hn : N ≤ 64
  · rw [show (min (N : Int) 64).toNat = N by omega, h, List.take_length, List.take_of_length_le (by omega)]
  · rw [show (min (N : Int) 64).toNat = 64 by omega]
/-- 'string(b[:n])', of a row whose first bytes are known. -/
theorem back_take {w : World} {g c2 : Nat} (M : List UInt8) (h : ∀ j v, (M.map bv)[j]? = some v → w.cell? ⟨g, j, none⟩ = some v) (n : Nat) (hn : n ≤ M.length) :
    (convert 29 9 (.slice (some ⟨g, 0, none⟩) n c2)).run Tryz.prog w = .ok (.string ⟨(M.take n).toArray⟩) w := by
  have hl : (M.take n).length = n := by rw [List.length_take]; omega
  have := run_convert_bytes_back (P := Tryz.prog) w 29 9 5 ⟨g, 0, none⟩ c2 (M.take n) Tryz.underlying29 Tryz.underlying5 Tryz.underlying9 (fun j hj => by
    rw [Addr.add_lit, Nat.zero_add]
    refine h j _ ?_
    have hj2 : j < M.length := by rw [hl] at hj; omega
    rw [List.getElem?_map, List.getElem?_eq_getElem hj2, List.getElem_take]
    rfl)
  rw [hl] at this
  exact this

def inNameB (c : Nat) : Bool := decide (97 ≤ c ∧ c ≤ 122) || decide (65 ≤ c ∧ c ≤ 90) || decide (48 ≤ c ∧ c ≤ 57) || c == 95
def isDigB (c : Nat) : Bool := decide (48 ≤ c ∧ c ≤ 57)
theorem inName_all : ∀ c : Fin 256, P.labels_inName.f (c.val : Int) = some (inNameB c.val) := by decide +kernel
theorem isDig_all : ∀ c : Fin 256, P.labels_isDigit.f (c.val : Int) = some (isDigB c.val) := by decide +kernel
theorem inName_f (c : UInt8) : P.labels_inName.f (c.toNat : Int) = some (inNameB c.toNat) := inName_all ⟨c.toNat, c.toNat_lt⟩
theorem isDig_f (c : UInt8) : P.labels_isDigit.f (c.toNat : Int) = some (isDigB c.toNat) := isDig_all ⟨c.toNat, c.toNat_lt⟩
def cleanB (c : UInt8) : UInt8 := if inNameB c.toNat then c else 95
/-- What Clean makes of a text's bytes. -/
def cleanP (l : List UInt8) : List UInt8 :=
  ((match l.map cleanB with
    | [] => [95]
    | c :: m => if isDigB c.toNat then 95 :: c :: m else c :: m).take 64)

def clRow (l : List UInt8) (zs : List Value) (i : Nat) : List Value := ((l.take i).map cleanB ++ l.drop i).map bv ++ zs
theorem clRow_at (l : List UInt8) (zs : List Value) (i : Nat) (h : i < l.length) : (clRow l zs i)[i]? = some (bv l[i]) := by
  unfold clRow
  have e1 : l.drop i = l[i] :: l.drop (i + 1) := List.drop_eq_getElem_cons h
  have hl : ((l.take i).map cleanB).length = i := by simp; omega
  rw [List.getElem?_append_left (by simp; omega), List.getElem?_map, List.getElem?_append_right (by omega), hl, Nat.sub_self, e1]
  rfl
theorem clRow_next (l : List UInt8) (zs : List Value) (i : Nat) (h : i < l.length) : clRow l zs (i + 1) = (clRow l zs i).set i (bv (cleanB l[i])) := by
  unfold clRow
  have e1 : l.drop i = l[i] :: l.drop (i + 1) := List.drop_eq_getElem_cons h
  have hl : ((l.take i).map cleanB).length = i := by simp; omega
  rw [List.set_append_left _ _ (by simp; omega), ← List.map_set, e1, List.set_append_right _ _ (by omega), hl, Nat.sub_self, List.set_cons_zero, List.take_succ_eq_append_getElem h]
  congr 2
  rw [List.map_append, List.append_assoc]
  rfl
theorem set_same {α : Type} (L : List α) (i : Nat) (a : α) (h : L[i]? = some a) : L.set i a = L := by
  obtain ⟨hl, he⟩ := List.getElem?_eq_some_iff.1 h
  rw [← he]; exact List.set_getElem_self hl
theorem blkF_alloc {w : World} {g : Nat} {R : List Value} {fr : Nat × Nat} (h : w.heap[g]? = some (.cells R.toArray 5 fr)) (o : Obj) : (w.alloc o).heap[g]? = some (.cells R.toArray 5 fr) := (Below.heap_alloc w o g (blk_lt h)).trans h
theorem clRow_set {w : World} {g : Nat} {fr : Nat × Nat} {R : List Value} (h : w.heap[g]? = some (.cells R.toArray 5 fr)) (i : Nat) (v : Value) : (w.setCell ⟨g, i, none⟩ v).heap[g]? = some (.cells (R.set i v).toArray 5 fr) := by
  rw [setCell_eq_setRow w g i _ _ _ v h, setRow_heap w g _ _ _ _ h]
  simp

set_option maxRecDepth 100000 in
set_option maxHeartbeats 4000000 in
theorem clean_calls (s : ByteArray) (hs : s.size ≤ 1000000) (w : World) :
    Calls Tryz.prog 17 #[.string s] w fun e w' => e = .returned (.string ⟨(cleanP s.data.toList).toArray⟩) ∧ Below w.heap.size w w' := by
  have hconv := run_bytes_of_string (P := Tryz.prog) w 9 29 5 s Tryz.underlying9 Tryz.underlying29 Tryz.underlying5
  have hc1 := grownCap_ge w s.size 0 5
  have hc2 := grownCap_le_maxLen w s.size 0 5 (by unfold maxLen; omega)
  generalize grownCap w s.size 0 5 = cap at hconv hc1 hc2
  have hll : s.data.toList.length = s.size := (Lib.size_eq s).symm
  generalize hl : s.data.toList = l at hll
  generalize hres : cleanP l = res
  have HRES := Aside0.mk hres
  clear hres
  obtain ⟨zs, hzs⟩ : ∃ zs : List Value, zs = List.replicate (cap - s.size) (.int .u8 0) := ⟨_, rfl⟩
  have hzl : l.length + zs.length = cap := by rw [hzs, List.length_replicate]; omega
  have hrow : bytesRow s cap = (clRow l zs 0).toArray := by
    apply Array.ext'
    unfold bytesRow clRow
    rw [hzs, ← hl]
    simp [bv]
  have hrs : (bytesRow s cap).size = cap := by rw [hrow]; simp [clRow]; omega
  rw [hrs, hrow] at hconv
  obtain ⟨W1, hW1⟩ : ∃ W1, W1 = w.drew.alloc (.cells (clRow l zs 0).toArray 5 (cap, cap + 1)) := ⟨_, rfl⟩
  rw [← hW1] at hconv
  have hH : W1.heap[w.heap.size]? = some (.cells (clRow l zs 0).toArray 5 (cap, cap + 1)) := by rw [hW1]; exact blk_new w.drew _
  have HH := Aside0.mk hH
  have HB : Aside0 (Below w.heap.size w W1) := ⟨by rw [hW1]; exact below_then (below_drew1 (Below.refl _ _)) (Nat.le_refl _) (below_alloc (Below.refl _ _) _)⟩
  clear hW1 hH hrow hrs hzs
  have hszl : (s.size : Int) = (l.length : Int) := by omega
  rw [← hll] at hconv
  have HL1 : Aside0 (l.length ≤ 1000000 ∧ l.length ≤ cap) := ⟨by omega, by omega⟩
  clear hc1 hszl hll hs
  go_enter Tryz.func17, Tryz.ntmps17
  go_wp2
  clear hconv
  go_loopg [10] l.length (fun kq v10 wr => ∃ (j : Int), v10 = .int .i64 j ∧ Aside0 (∃ i : Nat, j = (i : Int) ∧ kq + i = l.length ∧ wr.heap[w.heap.size]? = some (.cells (clRow l zs i).toArray 5 (cap, cap + 1))) ∧ Aside0 (Below w.heap.size w wr))
  case atStart => exact ⟨0, rfl, ⟨0, rfl, rfl, HH.out⟩, HB⟩
  case round =>
    clear HB HH
    obtain ⟨j, rfl, ⟨i, hij, hk, hH⟩, HB⟩ := hrel
    cases gk with
    | succ kq =>
      have hi : i < l.length := by omega
      have hat := clRow_at l zs i hi
      have hnx := clRow_next l zs i hi
      generalize hc : l[i] = c at hat hnx
      have hx : wr.cell? ⟨w.heap.size, j.toNat, none⟩ = some (.int .u8 (c.toNat : Int)) := by rw [show j.toNat = i by omega, cell_of_blkB hH]; exact hat
      have hf : wr.frozen? ⟨w.heap.size, j.toNat, none⟩ = false := by
        have := HL1.out
        simp [World.frozen?, hH]
        intro h; omega
      have hg : decide (j < (l.length : Int)) = true := decide_eq_true (by omega)
      have p1 : (0 ≤ j) = True := eq_true (by omega)
      have q1 : (j < (l.length : Int)) = True := eq_true (by omega)
      have HJ : Aside0 (j = (i : Int) ∧ kq + 1 + i = l.length) := ⟨hij, hk⟩
      have HH := Aside0.mk hH
      have HNX := Aside0.mk hnx
      have HAT := Aside0.mk hat
      clear hij hk hi hH hnx hat hc
      cases hin : inNameB c.toNat with
      | true =>
        go_wp2_with (go_at_call 33; (with_reducible refine (P.labels_inName.calls (c.toNat : Int) true _ (by rw [inName_f, hin])).mono ?_); rintro e w' ⟨rfl, hd⟩; obtain ⟨nd, rfl⟩ := hd.out)
        go_roundg kq
        case measure => have := HJ.out; omega
        case rel =>
          refine ⟨wrap64 (j + 1), rfl, ⟨i + 1, ?_, ?_, ?_⟩, ⟨pw_below_drewN HB.out nd⟩⟩
          · have := HJ.out; have := HL1.out; unfold wrap64; omega
          · have := HJ.out; omega
          · rw [HNX.out]
            have hcl : cleanB c = c := by unfold cleanB; rw [if_pos hin]
            rw [hcl, set_same _ _ _ HAT.out]
            exact HH.out
      | false =>
        go_wp2_with (go_at_call 33; (with_reducible refine (P.labels_inName.calls (c.toNat : Int) false _ (by rw [inName_f, hin])).mono ?_); rintro e w' ⟨rfl, hd⟩; obtain ⟨nd, rfl⟩ := hd.out)
        go_roundg kq
        case measure => have := HJ.out; omega
        case rel =>
          refine ⟨wrap64 (j + 1), rfl, ⟨i + 1, ?_, ?_, ?_⟩, ⟨below_set (pw_below_drewN HB.out nd) (Nat.le_refl _)⟩⟩
          · have := HJ.out; have := HL1.out; unfold wrap64; omega
          · have := HJ.out; omega
          · have hcl : bv (cleanB c) = .int .u8 95 := by unfold cleanB; rw [if_neg (by rw [hin]; decide)]; rfl
            rw [HNX.out, hcl, show j.toNat = i by have := HJ.out; omega]
            exact clRow_set HH.out i _
    | zero =>
      have hi : i = l.length := by omega
      have hg : decide (j < (l.length : Int)) = false := decide_eq_false (by omega)
      have hm : clRow l zs i = (l.map cleanB).map bv ++ zs := by rw [hi]; unfold clRow; rw [List.take_length, List.drop_length, List.append_nil]
      rw [hm] at hH
      have hml : (l.map cleanB).length = l.length := by simp
      have hres := HRES.out
      unfold cleanP at hres
      generalize l.map cleanB = m at hH hml hres
      have HH := Aside0.mk hH
      clear hH hm hij hk hi
      have hc3 : cap ≤ 9223372036854775807 := hc2
      have hHL := HL1.out
      cases m with
      | nil =>
        have hl0 : l.length = 0 := hml.symm
        have HR2 := Aside0.mk hres.symm
        clear hres
        rw [hl0] at hg hzl ⊢
        have hg0 : decide (j < 0) = false := hg
        have hg1 : ¬ j < 0 := of_decide_eq_false hg0
        clear hml hHL
        go_wp2_with (go_at_call 35; (with_reducible refine (insertB_at 0 w.heap.size w.heap.size cap wr.heap.size (cap, cap + 1) [] rfl zs hzl (by decide) (.inr (Nat.le_refl _)) hc2 w _ (blkF_alloc (w := wr) HH.out _) (blk_new (wr) _) (by have := blk_lt HH.out; omega) (Nat.le_refl _) (below_size (below_alloc (W := wr) HB.out _)) (below_alloc (W := wr) HB.out _)).mono ?_); rintro e w5 ⟨g2, N, c2, rfl, hN, h1, h2, h3, h4⟩; have HN := Aside0.mk hN; clear hN; have hcv := back_take (c2 := c2) (95 :: []) h3 (min (N : Int) 64).toNat (by rw [HN.out]; simp; omega); have hm0 : (0 : Int) ≤ min (N : Int) 64 := (by omega); have hm1 : min (N : Int) 64 ≤ (c2 : Int) := (by omega); have hm2 : c2 ≤ 9223372036854775807 := h2; have H4 := Aside0.mk h4; clear h4 h3)
        go_ret
        refine ⟨?_, H4.out⟩
        rw [HR2.out, ← take_min [95] N (by rw [HN.out]; rfl)]
        rfl
      | cons c m =>
        have hx0 : wr.cell? ⟨w.heap.size, 0, none⟩ = some (.int .u8 (c.toNat : Int)) := by rw [cell_of_blkB HH.out]; rfl
        have hlz : ((l.length : Int) == 0) = false := beq_eq_false_iff_ne.2 (by simp at hml; omega)
        have hlp : (0 : Int) < (l.length : Int) := by simp at hml; omega
        have hlp2 : 0 < l.length := by simp at hml; omega
        have HML := Aside0.mk hml
        clear hml
        cases hd : isDigB c.toNat with
        | true =>
          have HR2 := Aside0.mk (show res = (95 :: c :: m).take 64 by rw [← hres]; simp [hd])
          clear hres
          go_wp2_with (first
            | (go_at_call 34; (with_reducible refine (P.labels_isDigit.calls (c.toNat : Int) true _ (by rw [isDig_f, hd])).mono ?_); rintro e w' ⟨rfl, hdr⟩; obtain ⟨nd, rfl⟩ := hdr.out)
            | (go_at_call 35; (with_reducible refine (insertB_at l.length w.heap.size w.heap.size cap wr.heap.size (cap, cap + 1) (c :: m) HML.out zs hzl HL1.out.1 (.inr (Nat.le_refl _)) hc2 w _ (blkF_alloc (w := wr.drewN nd) HH.out _) (blk_new (wr.drewN nd) _) (by have := blk_lt HH.out; omega) (Nat.le_refl _) (below_size (below_alloc (pw_below_drewN HB.out nd) _)) (below_alloc (pw_below_drewN HB.out nd) _)).mono ?_); rintro e w5 ⟨g2, N, c2, rfl, hN, h1, h2, h3, h4⟩; have HN := Aside0.mk hN; clear hN; have hcv := back_take (c2 := c2) (95 :: c :: m) h3 (min (N : Int) 64).toNat (by rw [HN.out]; have hq := HML.out; simp at hq ⊢; omega); have hm0 : (0 : Int) ≤ min (N : Int) 64 := (by omega); have hm1 : min (N : Int) 64 ≤ (c2 : Int) := (by omega); have hm2 : c2 ≤ 9223372036854775807 := h2; have H4 := Aside0.mk h4; clear h4 h3))
          go_ret
          refine ⟨?_, H4.out⟩
          rw [HR2.out, ← take_min (95 :: c :: m) N (by rw [HN.out, ← HML.out]; rfl)]
          rfl
        | false =>
          have HR2 := Aside0.mk (show res = (c :: m).take 64 by rw [← hres]; simp [hd])
          clear hres
          have hcv : ∀ nd, (convert 29 9 (.slice (some ⟨w.heap.size, 0, none⟩) (min (l.length : Int) 64).toNat cap)).run Tryz.prog (wr.drewN nd) = .ok (.string ⟨((c :: m).take (min (l.length : Int) 64).toNat).toArray⟩) (wr.drewN nd) := fun nd => back_take (w := wr.drewN nd) (c2 := cap) (c :: m) (fun j v hj => by
            have hjl := (List.getElem?_eq_some_iff.1 hj).1
            have e := cell_of_blkB (w := wr.drewN nd) HH.out j
            rw [e, List.getElem?_append_left hjl]; exact hj) (min (l.length : Int) 64).toNat (by have := HML.out; omega)
          have hm0 : (0 : Int) ≤ min (l.length : Int) 64 := by omega
          have hm1 : min (l.length : Int) 64 ≤ (cap : Int) := by omega
          go_wp2_with (go_at_call 34; (with_reducible refine (P.labels_isDigit.calls (c.toNat : Int) false _ (by rw [isDig_f, hd])).mono ?_); rintro e w' ⟨rfl, hdr⟩; obtain ⟨nd, rfl⟩ := hdr.out)
          go_ret
          refine ⟨?_, pw_below_drewN HB.out _⟩
          rw [HR2.out, ← take_min (c :: m) l.length HML.out.symm]
          rfl
end Go.Proofs.YtnmofpefofkoeaaGreatDoor
namespace Go.Proofs.YtnmofpefofkoeaaGreatDoor.P
open Go Go.RowKit Go.Proofs.YtnmofpefofkoeaaGreatDoorW.PrintWords
def labels_Clean.f (a0 : ByteArray) : Option ByteArray := if a0.size ≤ 1000000 then some ⟨(cleanP a0.data.toList).toArray⟩ else none
theorem labels_Clean.calls (a0 : ByteArray) (r : ByteArray) (w : World) (h : labels_Clean.f a0 = some r) :
    Calls Tryz.prog 17 #[.string a0] w fun e w' => e = .returned (.string r) ∧ Below w.heap.size w w' := by
  unfold labels_Clean.f at h
  split at h
  · rename_i hs
    injection h with h
    subst h
    exact clean_calls a0 hs w
  · contradiction
end Go.Proofs.YtnmofpefofkoeaaGreatDoor.P
