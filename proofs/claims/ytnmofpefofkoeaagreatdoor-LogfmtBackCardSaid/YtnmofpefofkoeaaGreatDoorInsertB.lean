/- slices.Insert of one byte: it stands at its place. Its conditions: a row that is known whole, the place within it, not at its end. -/
import Derived.Test.YtnmofpefofkoeaaGreatDoorInsert
set_option linter.unusedVariables false
namespace Go.Proofs.YtnmofpefofkoeaaGreatDoor
open Go Go.RowKit Go.Lib Go.Proofs.YtnmofpefofkoeaaGreatDoorW.PrintWords Go.Proofs.YtnmofpefofkoeaaGreatDoorW.PrintLast Go.Proofs.YtnmofpefofkoeaaGreatDoorW.PrintMore Go.Proofs.YtnmofpefofkoeaaGreatDoor.P

theorem infoU8 : (Tryz.prog.info? 5).map (fun i => (i.zero, i.size, i.bytes)) = some (some (.int .u8 0), 1, 1) := by kernel_rfl
section laws
variable {P : Program}
/-- As 'run_storeCells_at', whatever mark the row bears behind its cells. -/
theorem run_storeCells_atF (g o : Nat) (t : TypeId) (fr : Nat × Nat) : ∀ (vs : List Value) (i : Nat) (cur : Array Value) (w : World), w.heap[g]? = some (.cells cur t fr) → (fr = (0, 0) ∨ cur.size ≤ fr.1) → o + i + vs.length ≤ cur.size → (∀ v ∈ vs, v.oneCell' = true) →
    (storeCells ⟨g, o, none⟩ vs i).run P w = .ok () (w.setRow g (cur.toList.take (o + i) ++ vs ++ cur.toList.drop (o + i + vs.length)).toArray)
  | [], i, cur, w, hg, _, _, _ => by
    simp only [storeCells, List.append_nil, List.length_nil, Nat.add_zero, List.take_append_drop, Array.toArray_toList]
    rw [setRow_self w g cur t fr hg]
    rfl
  | v :: rest, i, cur, w, hg, hfr, hl, h1 => by
    have hi : o + i < cur.size := by simp at hl; omega
    have hadd : (⟨g, o, none⟩ : Addr).add i = ⟨g, o + i, none⟩ := by unfold Addr.add; split <;> simp_all
    have hcell : w.cell? ⟨g, o + i, none⟩ = some cur[o + i] := by simp [World.cell?, hg, hi]
    have hfro : w.frozen? ⟨g, o + i, none⟩ = false := by
      simp [World.frozen?, hg]
      rcases hfr with rfl | h
      · intro h; omega
      · intro h; omega
    have hst : (store ((⟨g, o, none⟩ : Addr).add i) v).run P w = .ok () (w.setRow g (cur.setIfInBounds (o + i) v)) := by
      rw [hadd, run_store P w _ v _ (h1 v (by simp)), hcell]
      simp [hfro, setCell_eq_setRow w g (o + i) cur t fr v hg]
    have ih := run_storeCells_atF g o t fr rest (i + 1) (cur.setIfInBounds (o + i) v) (w.setRow g (cur.setIfInBounds (o + i) v)) (setRow_heap w g cur _ t _ hg) (by simpa using hfr) (by simp at hl ⊢; omega) (fun x hx => h1 x (by simp [hx]))
    simp only [storeCells, Sem.run_bind, hst, Result.andThen_ok, ih, setRow_setRow]
    congr 3
    have e := list_seg_step cur.toList (o + i) v rest (by simp at hl ⊢; omega)
    simpa [Array.toList_setIfInBounds, Nat.add_assoc] using e
/-- A copy into a row that is known whole, of elements of whatever number of cells. -/
theorem run_copy_rowF (w : World) (dT sT ty elem : TypeId) (sz n g o dLen dCap : Nat) (a : Addr) (sLen sCap : Nat) (cur : List Value) (t : TypeId) (fr : Nat × Nat) (hfr : fr = (0, 0) ∨ cur.length ≤ fr.1) (cs : List Value)
    (hu : P.underlying dT = some (.slice elem)) (hs : (P.info? elem).map (·.size) = some sz)
    (hg : w.heap[g]? = some (.cells cur.toArray t fr)) (hn : Nat.min sLen dLen = n) (hcs : cs.length = n * sz)
    (hsrc : ∀ j v, cs[j]? = some v → w.cell? (a.add j) = some v) (hfit : o + cs.length ≤ cur.length) (h1 : ∀ v ∈ cs, v.oneCell' = true) :
    (Builtin.copy_ #[dT, sT] ty #[.slice (some ⟨g, o, none⟩) dLen dCap, .slice (some a) sLen sCap]).run P w = .ok (goInt n) (w.setRow g (splice cur o cs).toArray) := by
  have hl := run_loadCells_list (P := P) w a cs hsrc
  have hst := run_storeCells_atF (P := P) g o t fr cs 0 cur.toArray w hg (by simpa using hfr) (by simpa using hfit) h1
  have hsp : splice cur o cs = cur.take o ++ cs ++ cur.drop (o + cs.length) := by unfold splice; rw [List.append_assoc]
  cases hq : P.info? elem with
  | none => simp [hq] at hs
  | some i =>
    have hi : i.size = sz := by simpa [hq] using hs
    rw [hcs] at hl
    simp [Builtin.copy_, run_underlying hu, Builtin.lenOf, Builtin.firstCells, sizeOf, typeInfo, hq, hi, hn, hl, hst, hsp]

theorem list_copyF {w : World} {ops : Array Oper} {rest : List Oper} {o : Oper} {a : Act} {Q : Exit → Act → World → Prop} (hgd : o.guard = none) (d s : Operand) (dT sT : TypeId)
    (ho : o.op = .call { callee := .builtin .copy, args := #[d, s], argTypes := #[dT, sT] }) (elem : TypeId) (sz n : Nat) (hu : P.underlying dT = some (.slice elem)) (hs : (P.info? elem).map (·.size) = some sz)
    (g off dLen dCap : Nat) (ad : Addr) (sLen sCap : Nat) (hd : a.eval d = .slice (some ⟨g, off, none⟩) dLen dCap) (hsv : a.eval s = .slice (some ad) sLen sCap)
    (cur : List Value) (t : TypeId) (fr : Nat × Nat) (hfr : fr = (0, 0) ∨ cur.length ≤ fr.1) (hg : w.heap[g]? = some (.cells cur.toArray t fr)) (cs : List Value) (hn : Nat.min sLen dLen = n) (hcs : cs.length = n * sz)
    (hsrc : ∀ j v, cs[j]? = some v → w.cell? (ad.add j) = some v) (hfit : off + cs.length ≤ cur.length) (h1 : ∀ v ∈ cs, v.oneCell' = true) (B : Nat) (w0 : World) (hb : Below B w0 w) (hBg : B ≤ g)
    (h : ∀ w', Hid (w'.heap[g]? = some (.cells (splice cur off cs).toArray t fr)) → Hid (Below B w0 w') → Hid (∀ k, k ≠ g → w'.heap[k]? = w.heap[k]?) → wpList P ops Q rest (a.put o.dst (goInt n)) w') :
    wpList P ops Q (o :: rest) a w := by
  refine wpList_plain hgd fun K hK => ?_
  have hrun := run_copy_rowF (P := P) w dT sT o.type elem sz n g off dLen dCap ad sLen sCap cur t fr hfr cs hu hs hg hn hcs hsrc hfit h1
  unfold Oper.wp
  simp [execOp, ho, resolve, invoke, builtin, hd, hsv, hrun, Result.andThen]
  exact hK _ _ (h _ (show _ = _ from setRow_heap w g _ _ t _ hg) (show Below _ _ _ from below_setRow hb hBg _) (show ∀ k, k ≠ g → _ from fun k hk => setRow_other w g k _ hk))

theorem step_copyF {ops : Array Oper} {o : Oper} {a : Act} {w : World} {K : Act → World → Prop} {Q : Exit → Act → World → Prop} {E : Prop} (hgd : o.guard = none) (d s : Operand) (dT sT : TypeId)
    (ho : o.op = .call { callee := .builtin .copy, args := #[d, s], argTypes := #[dT, sT] }) (elem : TypeId) (sz n : Nat) (hu : P.underlying dT = some (.slice elem)) (hs : (P.info? elem).map (·.size) = some sz)
    (g off dLen dCap : Nat) (ad : Addr) (sLen sCap : Nat) (hd : a.eval d = .slice (some ⟨g, off, none⟩) dLen dCap) (hsv : a.eval s = .slice (some ad) sLen sCap)
    (cur : List Value) (t : TypeId) (fr : Nat × Nat) (hfr : fr = (0, 0) ∨ cur.length ≤ fr.1) (hg : w.heap[g]? = some (.cells cur.toArray t fr)) (cs : List Value) (hn : Nat.min sLen dLen = n) (hcs : cs.length = n * sz)
    (hsrc : ∀ j v, cs[j]? = some v → w.cell? (ad.add j) = some v) (hfit : off + cs.length ≤ cur.length) (h1 : ∀ v ∈ cs, v.oneCell' = true) (B : Nat) (w0 : World) (hb : Below B w0 w) (hBg : B ≤ g)
    (h : ∀ w', Hid (w'.heap[g]? = some (.cells (splice cur off cs).toArray t fr)) → Hid (Below B w0 w') → Hid (∀ k, k ≠ g → w'.heap[k]? = w.heap[k]?) → K (a.put o.dst (goInt n)) w') :
    if Region.wanted o (yielded ops a.tmps) = true then Oper.wp P o a w K Q else E := by
  have hw : Region.wanted o (yielded ops a.tmps) = true := by simp [Region.wanted, hgd]
  rw [if_pos hw]
  have hrun := run_copy_rowF (P := P) w dT sT o.type elem sz n g off dLen dCap ad sLen sCap cur t fr hfr cs hu hs hg hn hcs hsrc hfit h1
  unfold Oper.wp
  simp [execOp, ho, resolve, invoke, builtin, hd, hsv, hrun, Result.andThen]
  exact h _ (show _ = _ from setRow_heap w g _ _ t _ hg) (show Below _ _ _ from below_setRow hb hBg _) (show ∀ k, k ≠ g → _ from fun k hk => setRow_other w g k _ hk)
end laws
theorem sizeByte : (Tryz.prog.info? 5).map (·.size) = some 1 := by kernel_rfl
theorem cell_of_blkB {w : World} {g : Nat} {cur : List Value} {fr : Nat × Nat} (h : w.heap[g]? = some (.cells cur.toArray 5 fr)) (j : Nat) : w.cell? ⟨g, j, none⟩ = cur[j]? := by
  rw [cell_of_row w g j _ _ _ h, List.getElem?_toArray]

theorem src_cellsB {w : World} {g n i : Nat} {cur : List Value} {fr : Nat × Nat} (h : w.heap[g]? = some (.cells cur.toArray 5 fr)) (j : Nat) (v : Value) (hj : ((cur.take (n)).drop (i))[j]? = some v) : w.cell? ((⟨g, i, none⟩ : Addr).add j) = some v := by
  rw [List.getElem?_drop, List.getElem?_take] at hj
  rw [Addr.add_lit, cell_of_blkB h]
  split at hj
  · exact hj
  · cases hj
theorem one_cell {w : World} {vb : Nat} {a : Value} (h : w.heap[vb]? = some (.cells #[a] 5 (0, 0))) (j : Nat) (v : Value) (hj : [a][j]? = some v) : w.cell? ((⟨vb, 0, none⟩ : Addr).add j) = some v := by
  rw [Addr.add_lit, Nat.zero_add, blk_cell h j]
  rw [← hj]; simp

set_option maxRecDepth 100000 in
set_option maxHeartbeats 4000000 in
theorem insertB_shift (base g cap n i vb : Nat) (cur : List Value) (fr : Nat × Nat) (hfr : fr = (0, 0) ∨ cur.length ≤ fr.1) (w0 w : World) (hi : i < n) (hroom : n + 1 ≤ cap) (hc63 : cap ≤ 9223372036854775807) (hcur : cur.length = cap) (hone : ∀ v ∈ cur.take (n), v.oneCell' = true)
    (hg : w.heap[g]? = some (.cells cur.toArray 5 fr)) (hv : w.heap[vb]? = some (.cells #[.int .u8 95] 5 (0, 0))) (hvg : vb ≠ g) (hbase : base ≤ g) (hB : Below base w0 w) :
    Calls Tryz.prog 35 #[.slice (some ⟨g, 0, none⟩) n cap, .int .i64 i, .slice (some ⟨vb, 0, none⟩) 1 1] w fun e w' =>
      e = .returned (.slice (some ⟨g, 0, none⟩) (n + 1) cap) ∧ w'.heap[g]? = some (.cells (splice (splice cur ((i + 1)) ((cur.take (n)).drop (i))) (i) [.int .u8 95]).toArray 5 fr) ∧ Below base w0 w' := by
  have hov : ∀ o lb cb, (callFunc 60 #[.slice (some ⟨vb, 0, none⟩) 1 1, .slice (some ⟨g, o, none⟩) lb cb]).run Tryz.prog w = .ok (.value (.bool false)) w := fun o lb cb => by
    rw [run_callFunc_extern Tryz.func60 (by kernel_rfl) (by kernel_rfl) (by kernel_rfl) (e := Extern.SlicesOverlaps.overlaps #[29, 29] #[4]) (by kernel_rfl),
      Lib.run_overlaps_apart w 29 4 5 Tryz.underlying29 1 (fun w => by first | rfl | (simp [sizeOf, typeInfo, go_sem]; done) | kernel_rfl) ⟨vb, 0, none⟩ ⟨g, o, none⟩ 1 1 lb cb hvg 5 5 1 (cap) (by simp [World.shape?, hv]) (by simp [World.shape?, hg, hcur]) (by omega) (by simp [World.frozen?, hv]) (by simp [World.frozen?, hv])]
    rfl
  have hz2 : ¬ ((i : Int) = (n : Int)) := by omega
  have hw1 : IntKind.i64.wrap ((i : Int) + 1) = (i : Int) + 1 := by rw [IntKind.wrap_i64]; omega
  have hb1 : (0 : Int) ≤ (i : Int) + 1 := by omega
  have hin : i ≤ n := by omega
  have htn : ((i : Int) + 1).toNat = i + 1 := by omega
  have hb2 : ¬ (cap = i + 1) := by omega
  have hb3 : (i : Int) ≤ (n : Int) + 1 := by omega
  have hb4 : ¬ (cap = i) := by omega
  have hcsl : ((cur.take (n)).drop (i)).length = n - i := by rw [List.length_drop, List.length_take, hcur]; omega
  have hmin1 : Nat.min (n + 1 - i) (n + 1 - (i + 1)) = n - i := by show min _ _ = _; omega
  have hmin2 : Nat.min 1 (n + 1 - i) = 1 := by show min _ _ = _; omega
  have hfit1 : (i + 1) + ((cur.take (n)).drop (i)).length ≤ cur.length := by rw [hcsl, hcur]; omega
  have hfit2 : i + [Value.int .u8 95].length ≤ (splice cur ((i + 1)) ((cur.take (n)).drop (i))).length := by rw [length_splice _ _ _ hfit1, hcur]; simp; omega
  have hfr2 : fr = (0, 0) ∨ (splice cur ((i + 1)) ((cur.take (n)).drop (i))).length ≤ fr.1 := by rw [length_splice _ _ _ hfit1]; exact hfr
  have hone1 : ∀ v ∈ (cur.take (n)).drop (i), v.oneCell' = true := fun v hv => hone v (List.mem_of_mem_drop hv)
  have hone2 : ∀ v ∈ [Value.int .u8 95], v.oneCell' = true := fun v hv => by simp at hv; subst hv; rfl
  have hBd : Below base w0 w.drew := below_drew1 hB
  have mixed : Tryz.prog.follows Departure.mixedOrders = true := by kernel_rfl
  have HG := Aside0.mk hg
  have HV := Aside0.mk hv
  have HBB := Aside0.mk hB
  clear hg hv hB
  go_enter Tryz.func35, Tryz.ntmps35
  go_wp2_with (simp only [hov])
  go_region_law_o (refine step_copyF rfl (.tmp 73) (.tmp 76) 29 29 rfl 5 1 (n - i) Tryz.underlying29 sizeByte g ((i + 1)) (n + 1 - (i + 1)) (cap - (i + 1)) ⟨g, i, none⟩ (n + 1 - i) (cap - i) (by simp [Act.eval, Act.put]) (by simp [Act.eval, Act.put]) cur 5 fr hfr HG.out ((cur.take (n)).drop (i)) hmin1 (hcsl.trans (Nat.mul_one _).symm) (src_cellsB HG.out) hfit1 hone1 base w0 hBd hbase ?_; intro w2 hg2 hb2' hk2)
  have hv2 : w2.heap[vb]? = some (.cells #[.int .u8 95] 5 (0, 0)) := (hk2.out vb hvg).trans HV.out
  go_wp2_with ((with_reducible refine gate_builtin (b := .copy) (xs := #[.tmp 80, .tmp 81]) rfl ?_); refine list_copyF rfl (.tmp 80) (.tmp 81) 29 29 rfl 5 1 1 Tryz.underlying29 sizeByte g (i) (n + 1 - i) (cap - i) ⟨vb, 0, none⟩ 1 1 rfl rfl (splice cur ((i + 1)) ((cur.take (n)).drop (i))) 5 fr hfr2 hg2.out [.int .u8 95] hmin2 rfl (one_cell hv2) hfit2 hone2 base w0 hb2'.out hbase ?_; intro w3 hg3 hb3' hk3)
  go_ret
  exact ⟨rfl, hg3.out, hb3'.out⟩

set_option maxRecDepth 100000 in
set_option maxHeartbeats 4000000 in
theorem insertB_grow (base g cap n i vb : Nat) (cur : List Value) (fr : Nat × Nat) (hfr : fr = (0, 0) ∨ cur.length ≤ fr.1) (w0 w : World) (hi : i < n) (hnc : n ≤ cap) (hroom : cap < n + 1) (hn : n ≤ 1000000) (hcur : cur.length = cap) (hone : ∀ v ∈ cur.take (n), v.oneCell' = true)
    (hg : w.heap[g]? = some (.cells cur.toArray 5 fr)) (hv : w.heap[vb]? = some (.cells #[.int .u8 95] 5 (0, 0))) (hbase : base ≤ w.heap.size) (hB : Below base w0 w) :
    Calls Tryz.prog 35 #[.slice (some ⟨g, 0, none⟩) n cap, .int .i64 i, .slice (some ⟨vb, 0, none⟩) 1 1] w fun e w' =>
      ∃ G row, e = .returned (.slice (some ⟨w.heap.size, 0, none⟩) (n + 1) G) ∧ n + 1 ≤ G ∧ G ≤ maxLen ∧ row.length = G ∧ row.take (i) = cur.take (i) ∧
        w'.heap[w.heap.size]? = some (.cells (splice (splice row (i) [.int .u8 95]) ((i + 1)) ((cur.take (n)).drop (i))).toArray 5 (0, 0)) ∧ Below base w0 w' := by
  obtain ⟨i0, hi0, hzz⟩ := Option.map_eq_some_iff.1 infoU8
  simp only [Prod.mk.injEq] at hzz
  obtain ⟨hz0, hzs, hzb⟩ := hzz
  have hgl := blk_lt hg
  have hvl := blk_lt hv
  have hold : (Builtin.firstCells i0.size i (.slice (some ⟨g, 0, none⟩) i cap)).run Tryz.prog w.drew = .ok (cur.take (i)).toArray w.drew := by
    rw [hzs]
    exact run_firstCells_some w.drew 1 i ⟨g, 0, none⟩ i cap (cur.take (i)) (by rw [List.length_take, hcur]; omega) (fun j v hj => by
      rw [Addr.add_lit, Nat.zero_add]
      rw [List.getElem?_take] at hj
      split at hj
      · show w.cell? _ = _
        rw [cell_of_blkB hg]; exact hj
      · cases hj)
  have hkk : (n : Int) + 1 - (i : Int) = ((n + 1 - i : Nat) : Int) := by omega
  have hik : i + (n + 1 - i) = n + 1 := by omega
  have hbig : (n + 1) * 1 ≤ 140737488355328 := by omega
  obtain ⟨zc, hzc⟩ : ∃ zc : Nat → Array Value, zc = fun k => Builtin.zeroCells (Value.int .u8 0).cells k := ⟨_, rfl⟩
  have hzl : ∀ k, (zc k).size = k := fun k => by rw [hzc]; simp [Builtin.zeroCells, Value.cells]
  have hrz : ∀ ty, (Builtin.append_ #[29, 3] ty #[.slice (some ⟨g, 0, none⟩) i cap, .int .i64 ((n : Int) + 1 - (i : Int))]).run Tryz.prog w =
      .ok (.slice (some ⟨w.heap.size, 0, none⟩) (n + 1) (grownCap w (n + 1) cap 5)) (w.drew.alloc (.cells ((cur.take (i)).toArray ++ zc (n + 1 - i) ++ zc (grownCap w (n + 1) cap 5 - (n + 1))) 5)) := fun ty => by
    have h := Lib.run_append_grow_zeros w 29 3 ty 5 i0 _ .i64 .i64 Tryz.underlying29 Tryz.underlying3 hi0 hz0 (some ⟨g, 0, none⟩) i cap (cur.take (i)) hold (n + 1 - i) (by omega) (by omega) (by omega) (by omega) (by rw [hzb]; omega) (by rw [hzb, hik]; exact growslice_fits hroom hbig)
    rw [hik] at h
    rw [hkk, hzc]
    exact h
  have hGn : n + 1 ≤ grownCap w (n + 1) cap 5 := grownCap_ge w _ _ _
  have hG63 : grownCap w (n + 1) cap 5 ≤ maxLen := grownCap_le_maxLen w (n + 1) cap 5 (by unfold maxLen; omega)
  generalize grownCap w (n + 1) cap 5 = G at hrz hGn hG63
  obtain ⟨row, hrow⟩ : ∃ row : List Value, row = cur.take (i) ++ (zc (n + 1 - i)).toList ++ (zc (G - (n + 1))).toList := ⟨_, rfl⟩
  have hrl : row.length = G := by rw [hrow]; simp only [List.length_append, Array.length_toList, hzl, List.length_take, hcur]; omega
  have hrt : row.take (i) = cur.take (i) := by
    rw [hrow, List.append_assoc, List.take_append_of_le_length (by rw [List.length_take, hcur]; omega), List.take_take, Nat.min_self]
  have hra : (cur.take (i)).toArray ++ zc (n + 1 - i) ++ zc (G - (n + 1)) = row.toArray := by
    apply Array.ext'
    rw [hrow]; simp
  rw [hra] at hrz
  obtain ⟨W1, hW1⟩ : ∃ W1, W1 = w.drew.alloc (.cells row.toArray 5) := ⟨_, rfl⟩
  rw [← hW1] at hrz
  have hN : W1.heap[w.heap.size]? = some (.cells row.toArray 5 (0, 0)) := by rw [hW1]; exact blk_new w.drew _
  have hO : ∀ k, k < w.heap.size → W1.heap[k]? = w.heap[k]? := fun k hk => by rw [hW1]; exact Below.heap_alloc w.drew _ k hk
  have hB1 : Below base w0 W1 := by rw [hW1]; exact below_then (below_drew1 hB) hbase (below_alloc (Below.refl _ _) _)
  have hG1 : Aside0 (W1.heap[g]? = some (.cells cur.toArray 5 fr)) := ⟨(hO g hgl).trans hg⟩
  have hV1 : Aside0 (W1.heap[vb]? = some (.cells #[.int .u8 95] 5 (0, 0))) := ⟨(hO vb hvl).trans hv⟩
  have HN := Aside0.mk hN
  have HB1 := Aside0.mk hB1
  clear hN hO hB1 hW1 hra hrow hzl hold hg hv hzb hzs hz0 hi0 hkk hik hB hzc
  have hne : vb ≠ w.heap.size := by omega
  have hneg : g ≠ w.heap.size := by omega
  have hz2 : ¬ ((i : Int) = (n : Int)) := by omega
  have hz3 : (cap : Int) < (n : Int) + 1 := by omega
  have hw1 : IntKind.i64.wrap ((i : Int) + 1) = (i : Int) + 1 := by rw [IntKind.wrap_i64]; omega
  have hb1 : (0 : Int) ≤ (i : Int) + 1 := by omega
  have hin : i ≤ n := by omega
  have htn : ((i : Int) + 1).toNat = i + 1 := by omega
  have hGi : ¬ (G = i) := by omega
  have hGim : ¬ (G = i + 1) := by omega
  have hci : ¬ (cap = i) := by omega
  have hb3 : (i : Int) ≤ (n : Int) := by omega
  have hcsl : ((cur.take (n)).drop (i)).length = n - i := by rw [List.length_drop, List.length_take, hcur]; omega
  have hmin1 : Nat.min (n - i) (n + 1 - (i + 1)) = n - i := by show min _ _ = _; omega
  have hmin2 : Nat.min 1 (n + 1 - i) = 1 := by show min _ _ = _; omega
  have hfit2 : i + [Value.int .u8 95].length ≤ row.length := by rw [hrl]; simp; omega
  have hfit1 : (i + 1) + ((cur.take (n)).drop (i)).length ≤ (splice row (i) [Value.int .u8 95]).length := by rw [length_splice _ _ _ hfit2, hcsl, hrl]; omega
  have hone1 : ∀ v ∈ (cur.take (n)).drop (i), v.oneCell' = true := fun v hv => hone v (List.mem_of_mem_drop hv)
  have hone2 : ∀ v ∈ [Value.int .u8 95], v.oneCell' = true := fun v hv => by simp at hv; subst hv; rfl
  have mixed : Tryz.prog.follows Departure.mixedOrders = true := by kernel_rfl
  go_enter Tryz.func35, Tryz.ntmps35
  go_wp2_with (first
    | ((with_reducible refine gate_builtin (b := .append) (xs := #[.tmp 34, .tmp 39]) rfl ?_); at_builtin; refine Lib.wpList_append_run _ rfl _ _ _ _ rfl _ _ rfl rfl _ _ (hrz _) ?_)
    | ((with_reducible refine gate_builtin (b := .copy) (xs := #[.tmp 43, .tmp 44]) rfl ?_); refine list_copyF rfl (.tmp 43) (.tmp 44) 29 29 rfl 5 1 1 Tryz.underlying29 sizeByte w.heap.size (i) (n + 1 - i) (G - i) ⟨vb, 0, none⟩ 1 1 rfl rfl row 5 (0, 0) (.inl rfl) HN.out [.int .u8 95] hmin2 rfl (one_cell hV1.out) hfit2 hone2 base w0 HB1.out hbase ?_; intro w2 hg2 hb2' hk2))
  have hG2 : w2.heap[g]? = some (.cells cur.toArray 5 fr) := (hk2.out g hneg).trans hG1.out
  have hBd : Below base w0 w2.drew := below_drew1 hb2'.out
  go_region_law_o (refine step_copyF rfl (.tmp 50) (.tmp 53) 29 29 rfl 5 1 (n - i) Tryz.underlying29 sizeByte w.heap.size ((i + 1)) (n + 1 - (i + 1)) (G - (i + 1)) ⟨g, i, none⟩ (n - i) (cap - i) (by simp [Act.eval, Act.put]) (by simp [Act.eval, Act.put]) (splice row (i) [.int .u8 95]) 5 (0, 0) (.inl rfl) hg2.out ((cur.take (n)).drop (i)) hmin1 (hcsl.trans (Nat.mul_one _).symm) (src_cellsB hG2) hfit1 hone1 base w0 hBd hbase ?_; intro w3 hg3 hb3' hk3)
  go_wp2
  go_ret
  exact ⟨G, row, rfl, hGn, hG63, hrl, hrt, hg3.out, hb3'.out⟩
end Go.Proofs.YtnmofpefofkoeaaGreatDoor
