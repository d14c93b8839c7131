/- slices.Insert of one label: it stands at its place, the others ahead and behind. Its conditions: a row of the call's own of at most a million labels, the place within it. -/
import Derived.Test.YtnmofpefofkoeaaGreatDoorByName
import Derived.Laws.CopyOwn
import Derived.Lib.Overlaps
import Derived.Lib.AppendZeros
import Derived.Lib.AppendZerosOnto
import Derived.Shelf.RegionOpenPlain
import Derived.Lib.Walk
import Derived.Lib.SliceRun
import Derived.Laws.Externs
import Derived.Deep.RegionLaw
set_option linter.unusedVariables false
namespace Go.Proofs.YtnmofpefofkoeaaGreatDoor
open Go Go.RowKit Go.Lib Go.Proofs.YtnmofpefofkoeaaGreatDoorW.PrintWords Go.Proofs.YtnmofpefofkoeaaGreatDoorW.PrintLast Go.Proofs.YtnmofpefofkoeaaGreatDoorW.PrintMore Go.Proofs.YtnmofpefofkoeaaGreatDoor.P

section laws
variable {P : Program}
/-- A copy into a row that is known whole, of elements of whatever number of cells. -/
theorem run_copy_rowZ (w : World) (dT sT ty elem : TypeId) (sz n g o dLen dCap : Nat) (a : Addr) (sLen sCap : Nat) (cur : List Value) (t : TypeId) (cs : List Value)
    (hu : P.underlying dT = some (.slice elem)) (hs : (P.info? elem).map (·.size) = some sz)
    (hg : w.heap[g]? = some (.cells cur.toArray t (0, 0))) (hn : Nat.min sLen dLen = n) (hcs : cs.length = n * sz)
    (hsrc : ∀ j v, cs[j]? = some v → w.cell? (a.add j) = some v) (hfit : o + cs.length ≤ cur.length) (h1 : ∀ v ∈ cs, v.oneCell' = true) :
    (Builtin.copy_ #[dT, sT] ty #[.slice (some ⟨g, o, none⟩) dLen dCap, .slice (some a) sLen sCap]).run P w = .ok (goInt n) (w.setRow g (splice cur o cs).toArray) := by
  have hl := run_loadCells_list (P := P) w a cs hsrc
  have hst := run_storeCells_at P g o t cs 0 cur.toArray w hg (by simpa using hfit) h1
  have hsp : splice cur o cs = cur.take o ++ cs ++ cur.drop (o + cs.length) := by unfold splice; rw [List.append_assoc]
  cases hq : P.info? elem with
  | none => simp [hq] at hs
  | some i =>
    have hi : i.size = sz := by simpa [hq] using hs
    rw [hcs] at hl
    simp [Builtin.copy_, run_underlying hu, Builtin.lenOf, Builtin.firstCells, sizeOf, typeInfo, hq, hi, hn, hl, hst, hsp]

theorem list_copyZ {w : World} {ops : Array Oper} {rest : List Oper} {o : Oper} {a : Act} {Q : Exit → Act → World → Prop} (hgd : o.guard = none) (d s : Operand) (dT sT : TypeId)
    (ho : o.op = .call { callee := .builtin .copy, args := #[d, s], argTypes := #[dT, sT] }) (elem : TypeId) (sz n : Nat) (hu : P.underlying dT = some (.slice elem)) (hs : (P.info? elem).map (·.size) = some sz)
    (g off dLen dCap : Nat) (ad : Addr) (sLen sCap : Nat) (hd : a.eval d = .slice (some ⟨g, off, none⟩) dLen dCap) (hsv : a.eval s = .slice (some ad) sLen sCap)
    (cur : List Value) (t : TypeId) (hg : w.heap[g]? = some (.cells cur.toArray t (0, 0))) (cs : List Value) (hn : Nat.min sLen dLen = n) (hcs : cs.length = n * sz)
    (hsrc : ∀ j v, cs[j]? = some v → w.cell? (ad.add j) = some v) (hfit : off + cs.length ≤ cur.length) (h1 : ∀ v ∈ cs, v.oneCell' = true) (B : Nat) (w0 : World) (hb : Below B w0 w) (hBg : B ≤ g)
    (h : ∀ w', Hid (w'.heap[g]? = some (.cells (splice cur off cs).toArray t (0, 0))) → Hid (Below B w0 w') → Hid (∀ k, k ≠ g → w'.heap[k]? = w.heap[k]?) → wpList P ops Q rest (a.put o.dst (goInt n)) w') :
    wpList P ops Q (o :: rest) a w := by
  refine wpList_plain hgd fun K hK => ?_
  have hrun := run_copy_rowZ (P := P) w dT sT o.type elem sz n g off dLen dCap ad sLen sCap cur t cs hu hs hg hn hcs hsrc hfit h1
  unfold Oper.wp
  simp [execOp, ho, resolve, invoke, builtin, hd, hsv, hrun, Result.andThen]
  exact hK _ _ (h _ (show _ = _ from setRow_heap w g _ _ t _ hg) (show Below _ _ _ from below_setRow hb hBg _) (show ∀ k, k ≠ g → _ from fun k hk => setRow_other w g k _ hk))

theorem step_copyZ {ops : Array Oper} {o : Oper} {a : Act} {w : World} {K : Act → World → Prop} {Q : Exit → Act → World → Prop} {E : Prop} (hgd : o.guard = none) (d s : Operand) (dT sT : TypeId)
    (ho : o.op = .call { callee := .builtin .copy, args := #[d, s], argTypes := #[dT, sT] }) (elem : TypeId) (sz n : Nat) (hu : P.underlying dT = some (.slice elem)) (hs : (P.info? elem).map (·.size) = some sz)
    (g off dLen dCap : Nat) (ad : Addr) (sLen sCap : Nat) (hd : a.eval d = .slice (some ⟨g, off, none⟩) dLen dCap) (hsv : a.eval s = .slice (some ad) sLen sCap)
    (cur : List Value) (t : TypeId) (hg : w.heap[g]? = some (.cells cur.toArray t (0, 0))) (cs : List Value) (hn : Nat.min sLen dLen = n) (hcs : cs.length = n * sz)
    (hsrc : ∀ j v, cs[j]? = some v → w.cell? (ad.add j) = some v) (hfit : off + cs.length ≤ cur.length) (h1 : ∀ v ∈ cs, v.oneCell' = true) (B : Nat) (w0 : World) (hb : Below B w0 w) (hBg : B ≤ g)
    (h : ∀ w', Hid (w'.heap[g]? = some (.cells (splice cur off cs).toArray t (0, 0))) → Hid (Below B w0 w') → Hid (∀ k, k ≠ g → w'.heap[k]? = w.heap[k]?) → K (a.put o.dst (goInt n)) w') :
    if Region.wanted o (yielded ops a.tmps) = true then Oper.wp P o a w K Q else E := by
  have hw : Region.wanted o (yielded ops a.tmps) = true := by simp [Region.wanted, hgd]
  rw [if_pos hw]
  have hrun := run_copy_rowZ (P := P) w dT sT o.type elem sz n g off dLen dCap ad sLen sCap cur t cs hu hs hg hn hcs hsrc hfit h1
  unfold Oper.wp
  simp [execOp, ho, resolve, invoke, builtin, hd, hsv, hrun, Result.andThen]
  exact h _ (show _ = _ from setRow_heap w g _ _ t _ hg) (show Below _ _ _ from below_setRow hb hBg _) (show ∀ k, k ≠ g → _ from fun k hk => setRow_other w g k _ hk)
end laws

def labCells (l : List Lab) : List Value := l.flatMap fun x => [.string x.f0, .string x.f1]
theorem labCells_len : ∀ l, (labCells l).length = l.length * 2
  | [] => rfl
  | x :: l => by rw [labCells, List.flatMap_cons, List.length_append]; have := labCells_len l; unfold labCells at this; rw [this]; simp; omega
theorem labCells_append (a b : List Lab) : labCells (a ++ b) = labCells a ++ labCells b := by unfold labCells; rw [List.flatMap_append]
theorem labCells_one (l : List Lab) : ∀ v ∈ labCells l, v.oneCell' = true := by
  intro v hv
  unfold labCells at hv
  obtain ⟨x, _, hx⟩ := List.mem_flatMap.1 hv
  simp at hx
  rcases hx with rfl | rfl <;> rfl
theorem labCells_take (l : List Lab) (i : Nat) : labCells (l.take i) = (labCells l).take (i * 2) := by
  induction l generalizing i with
  | nil => simp [labCells]
  | cons x l ih =>
    cases i with
    | zero => simp [labCells]
    | succ i => rw [List.take_succ_cons, show labCells (x :: List.take i l) = [.string x.f0, .string x.f1] ++ labCells (l.take i) from rfl, ih, show labCells (x :: l) = [.string x.f0, .string x.f1] ++ labCells l from rfl, show (i + 1) * 2 = i * 2 + 2 by omega]; rfl
theorem labCells_drop (l : List Lab) (i : Nat) : labCells (l.drop i) = (labCells l).drop (i * 2) := by
  induction l generalizing i with
  | nil => simp [labCells]
  | cons x l ih =>
    cases i with
    | zero => simp [labCells]
    | succ i => rw [List.drop_succ_cons, ih, show labCells (x :: l) = [.string x.f0, .string x.f1] ++ labCells l from rfl, show (i + 1) * 2 = i * 2 + 2 by omega]; rfl
/-- The cells of a row of labels. -/
theorem reps_lab {w : World} {base : Nat} {ok : Nat → Prop} : ∀ {l : List Lab} {inner : List Value}, Reps (k35.M w base ok) 2 l inner → inner = labCells l
  | [], inner, h => by
    have := h.1
    simp at this
    rw [this]; rfl
  | x :: l, inner, h => by
    have h0 := h.2 0 x rfl
    have e0 := k35_openM h0
    rw [Nat.zero_mul, List.drop_zero] at e0
    have ht : Reps (k35.M w base ok) 2 l (inner.drop 2) := by
      refine ⟨by rw [List.length_drop, h.1, List.length_cons]; omega, fun j p hj => ?_⟩
      have := h.2 (j + 1) p (by simpa using hj)
      rwa [show (j + 1) * 2 = 2 + j * 2 by omega, ← List.drop_drop] at this
    have := reps_lab ht
    rw [← List.take_append_drop 2 inner, e0, this]
    rfl
theorem lab_reps (w : World) (base : Nat) (ok : Nat → Prop) : ∀ l : List Lab, Reps (k35.M w base ok) 2 l (labCells l)
  | l => ⟨labCells_len l, fun j p hj => by
      have hjl : j < l.length := by
        rcases Nat.lt_or_ge j l.length with h | h
        · exact h
        · rw [List.getElem?_eq_none h] at hj; cases hj
      have e : ((labCells l).drop (j * 2)).take 2 = [.string p.f0, .string p.f1] := by
        rw [← labCells_drop, List.drop_eq_getElem_cons hjl]
        rw [List.getElem?_eq_getElem hjl] at hj
        injection hj with hj
        rw [hj]; rfl
      rw [e]
      exact k35_mkM w base ok p⟩
theorem R_lab {w : World} {base : Nat} {v : Value} {l : List Lab} (h : w.ownsRow base 35 2 v l.length (labCells l)) : Kd.R k35 35 w base (fun _ => True) v l :=
  ⟨fun _ _ => trivial, labCells l, h, lab_reps w base _ l⟩
theorem lab_own {w : World} {base : Nat} {ok : Nat → Prop} {v : Value} {l : List Lab} (h : Kd.R k35 35 w base ok v l) : w.ownsRow base 35 2 v l.length (labCells l) := by
  obtain ⟨_, inner, ho, hr⟩ := h
  have := reps_lab hr
  subst this
  exact ho

theorem sizeLab : (Tryz.prog.info? 35).map (·.size) = some 2 := by kernel_rfl
theorem cell_of_blk {w : World} {g : Nat} {cur : List Value} (h : w.heap[g]? = some (.cells cur.toArray 35 (0, 0))) (j : Nat) : w.cell? ⟨g, j, none⟩ = cur[j]? := by
  rw [blk_cell h j, List.getElem?_toArray]

theorem src_cells {w : World} {g n i : Nat} {cur : List Value} (h : w.heap[g]? = some (.cells cur.toArray 35 (0, 0))) (j : Nat) (v : Value) (hj : ((cur.take (n * 2)).drop (i * 2))[j]? = some v) : w.cell? ((⟨g, i * 2, none⟩ : Addr).add j) = some v := by
  rw [List.getElem?_drop, List.getElem?_take] at hj
  rw [Addr.add_lit, cell_of_blk h]
  split at hj
  · exact hj
  · cases hj
theorem two_cells {w : World} {vb : Nat} {a b : Value} (h : w.heap[vb]? = some (.cells #[a, b] 35 (0, 0))) (j : Nat) (v : Value) (hj : [a, b][j]? = some v) : w.cell? ((⟨vb, 0, none⟩ : Addr).add j) = some v := by
  rw [Addr.add_lit, Nat.zero_add, blk_cell h j]
  rw [← hj]; simp

set_option maxRecDepth 100000 in
set_option maxHeartbeats 4000000 in
theorem insert_shift (base g cap n i vb : Nat) (cur : List Value) (x : Lab) (w0 w : World) (hi : i < n) (hroom : n + 1 ≤ cap) (hc63 : cap ≤ 9223372036854775807) (hcur : cur.length = cap * 2) (hone : ∀ v ∈ cur.take (n * 2), v.oneCell' = true)
    (hg : w.heap[g]? = some (.cells cur.toArray 35 (0, 0))) (hv : w.heap[vb]? = some (.cells #[.string x.f0, .string x.f1] 35 (0, 0))) (hvg : vb ≠ g) (hbase : base ≤ g) (hB : Below base w0 w) :
    Calls Tryz.prog 28 #[.slice (some ⟨g, 0, none⟩) n cap, .int .i64 i, .slice (some ⟨vb, 0, none⟩) 1 1] w fun e w' =>
      e = .returned (.slice (some ⟨g, 0, none⟩) (n + 1) cap) ∧ w'.heap[g]? = some (.cells (splice (splice cur ((i + 1) * 2) ((cur.take (n * 2)).drop (i * 2))) (i * 2) [.string x.f0, .string x.f1]).toArray 35 (0, 0)) ∧ Below base w0 w' := by
  have hu := Tryz.underlying35
  have hov : ∀ o lb cb, (callFunc 55 #[.slice (some ⟨vb, 0, none⟩) 1 1, .slice (some ⟨g, o, none⟩) lb cb]).run Tryz.prog w = .ok (.value (.bool false)) w := fun o lb cb => by
    rw [run_callFunc_extern Tryz.func55 (by kernel_rfl) (by kernel_rfl) (by kernel_rfl) (e := Extern.SlicesOverlaps.overlaps #[22, 22] #[4]) (by kernel_rfl),
      Lib.run_overlaps_apart w 22 4 35 Tryz.underlying22 2 (fun w => by first | rfl | (simp [sizeOf, typeInfo, go_sem]; done) | kernel_rfl) ⟨vb, 0, none⟩ ⟨g, o, none⟩ 1 1 lb cb hvg 35 35 2 (cap * 2) (by simp [World.shape?, hv]) (by simp [World.shape?, hg, hcur]) (by omega) (by simp [World.frozen?, hv]) (by simp [World.frozen?, hv])]
    rfl
  have hz2 : ¬ ((i : Int) = (n : Int)) := by omega
  have hw1 : IntKind.i64.wrap ((i : Int) + 1) = (i : Int) + 1 := by rw [IntKind.wrap_i64]; omega
  have hb1 : (0 : Int) ≤ (i : Int) + 1 := by omega
  have hin : i ≤ n := by omega
  have htn : ((i : Int) + 1).toNat = i + 1 := by omega
  have hb2 : ¬ (cap = i + 1) := by omega
  have hb3 : (i : Int) ≤ (n : Int) + 1 := by omega
  have hb4 : ¬ (cap = i) := by omega
  have hcsl : ((cur.take (n * 2)).drop (i * 2)).length = (n - i) * 2 := by rw [List.length_drop, List.length_take, hcur]; omega
  have hmin1 : Nat.min (n + 1 - i) (n + 1 - (i + 1)) = n - i := by show min _ _ = _; omega
  have hmin2 : Nat.min 1 (n + 1 - i) = 1 := by show min _ _ = _; omega
  have hfit1 : (i + 1) * 2 + ((cur.take (n * 2)).drop (i * 2)).length ≤ cur.length := by rw [hcsl, hcur]; omega
  have hfit2 : i * 2 + [Value.string x.f0, Value.string x.f1].length ≤ (splice cur ((i + 1) * 2) ((cur.take (n * 2)).drop (i * 2))).length := by rw [length_splice _ _ _ hfit1, hcur]; simp; omega
  have hone1 : ∀ v ∈ (cur.take (n * 2)).drop (i * 2), v.oneCell' = true := fun v hv => hone v (List.mem_of_mem_drop hv)
  have hone2 : ∀ v ∈ [Value.string x.f0, Value.string x.f1], v.oneCell' = true := fun v hv => by simp at hv; rcases hv with rfl | rfl <;> rfl
  have hBd : Below base w0 w.drew := below_drew1 hB
  have mixed : Tryz.prog.follows Departure.mixedOrders = true := by kernel_rfl
  have HG := Aside0.mk hg
  have HV := Aside0.mk hv
  have HBB := Aside0.mk hB
  clear hg hv hB
  go_enter Tryz.func28, Tryz.ntmps28
  go_wp2_with (simp only [hov])
  go_region_law_o (refine step_copyZ rfl (.tmp 73) (.tmp 76) 22 22 rfl 35 2 (n - i) Tryz.underlying22 sizeLab g ((i + 1) * 2) (n + 1 - (i + 1)) (cap - (i + 1)) ⟨g, i * 2, none⟩ (n + 1 - i) (cap - i) (by simp [Act.eval, Act.put]) (by simp [Act.eval, Act.put]) cur 35 HG.out ((cur.take (n * 2)).drop (i * 2)) hmin1 hcsl (src_cells HG.out) hfit1 hone1 base w0 hBd hbase ?_; intro w2 hg2 hb2' hk2)
  have hv2 : w2.heap[vb]? = some (.cells #[.string x.f0, .string x.f1] 35 (0, 0)) := (hk2.out vb hvg).trans HV.out
  go_wp2_with ((with_reducible refine gate_builtin (b := .copy) (xs := #[.tmp 80, .tmp 81]) rfl ?_); refine list_copyZ rfl (.tmp 80) (.tmp 81) 22 22 rfl 35 2 1 Tryz.underlying22 sizeLab g (i * 2) (n + 1 - i) (cap - i) ⟨vb, 0, none⟩ 1 1 rfl rfl (splice cur ((i + 1) * 2) ((cur.take (n * 2)).drop (i * 2))) 35 hg2.out [.string x.f0, .string x.f1] hmin2 rfl (two_cells hv2) hfit2 hone2 base w0 hb2'.out hbase ?_; intro w3 hg3 hb3' hk3)
  go_ret
  exact ⟨rfl, hg3.out, hb3'.out⟩

set_option maxRecDepth 100000 in
set_option maxHeartbeats 4000000 in
theorem insert_grow (base g cap n i vb : Nat) (cur : List Value) (x : Lab) (w0 w : World) (hi : i < n) (hnc : n ≤ cap) (hroom : cap < n + 1) (hn : n ≤ 1000000) (hcur : cur.length = cap * 2) (hone : ∀ v ∈ cur.take (n * 2), v.oneCell' = true)
    (hg : w.heap[g]? = some (.cells cur.toArray 35 (0, 0))) (hv : w.heap[vb]? = some (.cells #[.string x.f0, .string x.f1] 35 (0, 0))) (hbase : base ≤ w.heap.size) (hB : Below base w0 w) :
    Calls Tryz.prog 28 #[.slice (some ⟨g, 0, none⟩) n cap, .int .i64 i, .slice (some ⟨vb, 0, none⟩) 1 1] w fun e w' =>
      ∃ G row, e = .returned (.slice (some ⟨w.heap.size, 0, none⟩) (n + 1) G) ∧ n + 1 ≤ G ∧ G ≤ maxLen ∧ row.length = G * 2 ∧ row.take (i * 2) = cur.take (i * 2) ∧
        w'.heap[w.heap.size]? = some (.cells (splice (splice row (i * 2) [.string x.f0, .string x.f1]) ((i + 1) * 2) ((cur.take (n * 2)).drop (i * 2))).toArray 35 (0, 0)) ∧ Below base w0 w' := by
  have hu := Tryz.underlying35
  obtain ⟨i0, hi0, hzz⟩ := Option.map_eq_some_iff.1 info35
  simp only [Prod.mk.injEq] at hzz
  obtain ⟨hz0, hzs, hzb⟩ := hzz
  have hgl := blk_lt hg
  have hvl := blk_lt hv
  have hold : (Builtin.firstCells i0.size i (.slice (some ⟨g, 0, none⟩) i cap)).run Tryz.prog w.drew = .ok (cur.take (i * 2)).toArray w.drew := by
    rw [hzs]
    exact run_firstCells_some w.drew 2 i ⟨g, 0, none⟩ i cap (cur.take (i * 2)) (by rw [List.length_take, hcur]; omega) (fun j v hj => by
      rw [Addr.add_lit, Nat.zero_add]
      rw [List.getElem?_take] at hj
      split at hj
      · show w.cell? _ = _
        rw [cell_of_blk hg]; exact hj
      · cases hj)
  have hkk : (n : Int) + 1 - (i : Int) = ((n + 1 - i : Nat) : Int) := by omega
  have hik : i + (n + 1 - i) = n + 1 := by omega
  have hbig : (n + 1) * 32 ≤ 140737488355328 := by omega
  obtain ⟨zc, hzc⟩ : ∃ zc : Nat → Array Value, zc = fun k => Builtin.zeroCells (Value.agg #[(.string ⟨#[]⟩), (.string ⟨#[]⟩)]).cells k := ⟨_, rfl⟩
  have hzl : ∀ k, (zc k).size = k * 2 := fun k => by rw [hzc]; simp [Builtin.zeroCells, Value.cells]
  have hrz : ∀ ty, (Builtin.append_ #[22, 3] ty #[.slice (some ⟨g, 0, none⟩) i cap, .int .i64 ((n : Int) + 1 - (i : Int))]).run Tryz.prog w =
      .ok (.slice (some ⟨w.heap.size, 0, none⟩) (n + 1) (grownCap w (n + 1) cap 35)) (w.drew.alloc (.cells ((cur.take (i * 2)).toArray ++ zc (n + 1 - i) ++ zc (grownCap w (n + 1) cap 35 - (n + 1))) 35)) := fun ty => by
    have h := Lib.run_append_grow_zeros w 22 3 ty 35 i0 _ .i64 .i64 Tryz.underlying22 Tryz.underlying3 hi0 hz0 (some ⟨g, 0, none⟩) i cap (cur.take (i * 2)) hold (n + 1 - i) (by omega) (by omega) (by omega) (by omega) (by rw [hzb]; omega) (by rw [hzb, hik]; exact growslice_fits hroom hbig)
    rw [hik] at h
    rw [hkk, hzc]
    exact h
  have hGn : n + 1 ≤ grownCap w (n + 1) cap 35 := grownCap_ge w _ _ _
  have hG63 : grownCap w (n + 1) cap 35 ≤ maxLen := grownCap_le_maxLen w (n + 1) cap 35 (by unfold maxLen; omega)
  generalize grownCap w (n + 1) cap 35 = G at hrz hGn hG63
  obtain ⟨row, hrow⟩ : ∃ row : List Value, row = cur.take (i * 2) ++ (zc (n + 1 - i)).toList ++ (zc (G - (n + 1))).toList := ⟨_, rfl⟩
  have hrl : row.length = G * 2 := by rw [hrow]; simp only [List.length_append, Array.length_toList, hzl, List.length_take, hcur]; omega
  have hrt : row.take (i * 2) = cur.take (i * 2) := by
    rw [hrow, List.append_assoc, List.take_append_of_le_length (by rw [List.length_take, hcur]; omega), List.take_take, Nat.min_self]
  have hra : (cur.take (i * 2)).toArray ++ zc (n + 1 - i) ++ zc (G - (n + 1)) = row.toArray := by
    apply Array.ext'
    rw [hrow]; simp
  rw [hra] at hrz
  obtain ⟨W1, hW1⟩ : ∃ W1, W1 = w.drew.alloc (.cells row.toArray 35) := ⟨_, rfl⟩
  rw [← hW1] at hrz
  have hN : W1.heap[w.heap.size]? = some (.cells row.toArray 35 (0, 0)) := by rw [hW1]; exact blk_new w.drew _
  have hO : ∀ k, k < w.heap.size → W1.heap[k]? = w.heap[k]? := fun k hk => by rw [hW1]; exact Below.heap_alloc w.drew _ k hk
  have hB1 : Below base w0 W1 := by rw [hW1]; exact below_then (below_drew1 hB) hbase (below_alloc (Below.refl _ _) _)
  have hG1 : Aside0 (W1.heap[g]? = some (.cells cur.toArray 35 (0, 0))) := ⟨(hO g hgl).trans hg⟩
  have hV1 : Aside0 (W1.heap[vb]? = some (.cells #[.string x.f0, .string x.f1] 35 (0, 0))) := ⟨(hO vb hvl).trans hv⟩
  have HN := Aside0.mk hN
  have HB1 := Aside0.mk hB1
  clear hN hO hB1 hW1 hra hrow hzl hold hg hv hzb hzs hz0 hi0 hkk hik hB hzc
  have hne : vb ≠ w.heap.size := by omega
  have hneg : g ≠ w.heap.size := by omega
  have hz2 : ¬ ((i : Int) = (n : Int)) := by omega
  have hz3 : (cap : Int) < (n : Int) + 1 := by omega
  have hw1 : IntKind.i64.wrap ((i : Int) + 1) = (i : Int) + 1 := by rw [IntKind.wrap_i64]; omega
  have hb1 : (0 : Int) ≤ (i : Int) + 1 := by omega
  have hin : i ≤ n := by omega
  have htn : ((i : Int) + 1).toNat = i + 1 := by omega
  have hGi : ¬ (G = i) := by omega
  have hGim : ¬ (G = i + 1) := by omega
  have hci : ¬ (cap = i) := by omega
  have hb3 : (i : Int) ≤ (n : Int) := by omega
  have hcsl : ((cur.take (n * 2)).drop (i * 2)).length = (n - i) * 2 := by rw [List.length_drop, List.length_take, hcur]; omega
  have hmin1 : Nat.min (n - i) (n + 1 - (i + 1)) = n - i := by show min _ _ = _; omega
  have hmin2 : Nat.min 1 (n + 1 - i) = 1 := by show min _ _ = _; omega
  have hfit2 : i * 2 + [Value.string x.f0, Value.string x.f1].length ≤ row.length := by rw [hrl]; simp; omega
  have hfit1 : (i + 1) * 2 + ((cur.take (n * 2)).drop (i * 2)).length ≤ (splice row (i * 2) [Value.string x.f0, Value.string x.f1]).length := by rw [length_splice _ _ _ hfit2, hcsl, hrl]; omega
  have hone1 : ∀ v ∈ (cur.take (n * 2)).drop (i * 2), v.oneCell' = true := fun v hv => hone v (List.mem_of_mem_drop hv)
  have hone2 : ∀ v ∈ [Value.string x.f0, Value.string x.f1], v.oneCell' = true := fun v hv => by simp at hv; rcases hv with rfl | rfl <;> rfl
  have mixed : Tryz.prog.follows Departure.mixedOrders = true := by kernel_rfl
  go_enter Tryz.func28, Tryz.ntmps28
  go_wp2_with (first
    | ((with_reducible refine gate_builtin (b := .append) (xs := #[.tmp 34, .tmp 39]) rfl ?_); at_builtin; refine Lib.wpList_append_run _ rfl _ _ _ _ rfl _ _ rfl rfl _ _ (hrz _) ?_)
    | ((with_reducible refine gate_builtin (b := .copy) (xs := #[.tmp 43, .tmp 44]) rfl ?_); refine list_copyZ rfl (.tmp 43) (.tmp 44) 22 22 rfl 35 2 1 Tryz.underlying22 sizeLab w.heap.size (i * 2) (n + 1 - i) (G - i) ⟨vb, 0, none⟩ 1 1 rfl rfl row 35 HN.out [.string x.f0, .string x.f1] hmin2 rfl (two_cells hV1.out) hfit2 hone2 base w0 HB1.out hbase ?_; intro w2 hg2 hb2' hk2))
  have hG2 : w2.heap[g]? = some (.cells cur.toArray 35 (0, 0)) := (hk2.out g hneg).trans hG1.out
  have hBd : Below base w0 w2.drew := below_drew1 hb2'.out
  go_region_law_o (refine step_copyZ rfl (.tmp 50) (.tmp 53) 22 22 rfl 35 2 (n - i) Tryz.underlying22 sizeLab w.heap.size ((i + 1) * 2) (n + 1 - (i + 1)) (G - (i + 1)) ⟨g, i * 2, none⟩ (n - i) (cap - i) (by simp [Act.eval, Act.put]) (by simp [Act.eval, Act.put]) (splice row (i * 2) [.string x.f0, .string x.f1]) 35 hg2.out ((cur.take (n * 2)).drop (i * 2)) hmin1 hcsl (src_cells hG2) hfit1 hone1 base w0 hBd hbase ?_; intro w3 hg3 hb3' hk3)
  go_wp2
  go_ret
  exact ⟨G, row, rfl, hGn, hG63, hrl, hrt, hg3.out, hb3'.out⟩
end Go.Proofs.YtnmofpefofkoeaaGreatDoor
