/- slices.Insert of one label, whole: at the end, or among the others, with room or without. Its conditions: a row of the call's own of at most a million labels, the place within it. -/
import Derived.Test.YtnmofpefofkoeaaGreatDoorInsert
set_option linter.unusedVariables false
namespace Go.Proofs.YtnmofpefofkoeaaGreatDoor
open Go Go.RowKit Go.Lib Go.Proofs.YtnmofpefofkoeaaGreatDoorW.PrintWords Go.Proofs.YtnmofpefofkoeaaGreatDoorW.PrintLast Go.Proofs.YtnmofpefofkoeaaGreatDoorW.PrintMore Go.Proofs.YtnmofpefofkoeaaGreatDoor.P

theorem splice_down {α : Type} (cur cs ab : List α) (p : Nat) (hab : ab.length = 2) (hp : p + 2 ≤ cur.length) : splice (splice cur (p + 2) cs) p ab = cur.take p ++ (ab ++ (cs ++ cur.drop (p + 2 + cs.length))) := by
  unfold splice
  have h1 : (cur.take (p + 2) ++ (cs ++ cur.drop (p + 2 + cs.length))).take p = cur.take p := by
    rw [List.take_append_of_le_length (by rw [List.length_take]; omega), List.take_take, Nat.min_eq_left (by omega)]
  have h2 : (cur.take (p + 2) ++ (cs ++ cur.drop (p + 2 + cs.length))).drop (p + ab.length) = cs ++ cur.drop (p + 2 + cs.length) := by
    rw [hab, List.drop_append_of_le_length (by rw [List.length_take]; omega), List.drop_eq_nil_of_le (by rw [List.length_take]; omega), List.nil_append]
  rw [h1, h2]
theorem splice_up {α : Type} (cur cs ab : List α) (p : Nat) (hab : ab.length = 2) (hp : p + 2 ≤ cur.length) : splice (splice cur p ab) (p + 2) cs = cur.take p ++ (ab ++ (cs ++ cur.drop (p + 2 + cs.length))) := by
  unfold splice
  have hl : (cur.take p).length = p := by rw [List.length_take]; omega
  have h1 : (cur.take p ++ (ab ++ cur.drop (p + ab.length))).take (p + 2) = cur.take p ++ ab := by
    rw [← List.append_assoc, List.take_append_of_le_length (by rw [List.length_append, hl, hab]; omega), List.take_of_length_le (by rw [List.length_append, hl, hab]; omega)]
  have h2 : (cur.take p ++ (ab ++ cur.drop (p + ab.length))).drop (p + 2 + cs.length) = cur.drop (p + 2 + cs.length) := by
    rw [← List.append_assoc, List.drop_append, List.drop_eq_nil_of_le (by rw [List.length_append, hl, hab]; omega), List.nil_append, List.length_append, hl, hab, List.drop_drop]
    congr 1; omega
  rw [h1, h2, List.append_assoc]

theorem lab_mid (l : List Lab) (x : Lab) (i : Nat) (hi : i ≤ l.length) (cur rest : List Value) (hL : cur.take (l.length * 2) = labCells l) :
    ((cur.take (i * 2) ++ ([Value.string x.f0, Value.string x.f1] ++ ((cur.take (l.length * 2)).drop (i * 2) ++ rest))).take ((l.length + 1) * 2)) = labCells (l.take i ++ x :: l.drop i) := by
  have e1 : cur.take (i * 2) = labCells (l.take i) := by rw [labCells_take, ← hL, List.take_take, Nat.min_eq_left (by omega)]
  have e2 : (cur.take (l.length * 2)).drop (i * 2) = labCells (l.drop i) := by rw [hL, labCells_drop]
  have e3 : labCells (l.take i ++ x :: l.drop i) = labCells (l.take i) ++ ([Value.string x.f0, Value.string x.f1] ++ labCells (l.drop i)) := by rw [labCells_append]; rfl
  rw [e1, e2, ← List.append_assoc [Value.string x.f0, Value.string x.f1], ← List.append_assoc (labCells (l.take i)), ← e3, List.take_append_of_le_length (by rw [labCells_len]; simp; omega), List.take_of_length_le (by rw [labCells_len]; simp; omega)]

set_option maxRecDepth 100000 in
set_option maxHeartbeats 4000000 in
theorem insert_end (base : Nat) (ok : Nat → Prop) (v : Value) (l : List Lab) (x : Lab) (w0 w : World) (hlen : l.length ≤ 1000000) (hO : Kd.R k35 35 w base ok v l) (hbase : base ≤ w.heap.size) (hB : Below base w0 w) :
    Calls Tryz.prog 28 #[v, .int .i64 l.length, .slice (some ⟨w.heap.size, 0, none⟩) 1 1] (w.alloc (.cells #[.string x.f0, .string x.f1] 35)) fun e w' =>
      ∃ v', e = .returned v' ∧ Kd.R k35 35 w' base (fun _ => True) v' (l ++ [x]) ∧ Below base w0 w' := by
  have hu := Tryz.underlying35
  have HO := Aside0.mk (Kd.R_mono (ok' := fun _ => True) hO (fun _ _ => trivial))
  have HBB := Aside0.mk hB
  have hown := lab_own hO
  clear hO hB
  rcases hown.2 with ⟨rfl, h0⟩ | ⟨g, cap, cur, rfl, hg, hh, hnc, hcm, hcs, hct⟩
  · have hl0 : (l.length : Int) = 0 := by omega
    rw [hl0]
    clear hown hl0
    go_enter Tryz.func28, Tryz.ntmps28
    go_wp2_with ((with_reducible refine gate_builtin (b := .append) (xs := #[.tmp 23, .tmp 24]) rfl ?_); at_builtin; refine Kd.R_append k35 (w0 := w0) base rfl (.tmp 23) (.tmp 24) 22 35 (.agg #[(.string ⟨#[]⟩), (.string ⟨#[]⟩)]) 32 rfl Tryz.underlying22 info35 rfl (by decide) (by omega) (.slice none 0 0) l x [.string x.f0, .string x.f1] (fun _ => True) (fun _ => False) rfl rfl ?aP (fun _ hk => hk.elim) ?aF ?aO ?aB ?aS ?aL ?_; (case aP => exact k35_mkM _ _ _ x); (case aB => exact HBB.out); (case aF => exact (fun _ _ => trivial)); (case aO => exact HO.out); (case aS => exact hbase); (case aL => omega); intro v6 w8 ho hb hg hat; have NB := Aside0.mk hb; have NO := Aside0.mk ho; clear ho hb hg hat)
    go_ret
    exact ⟨_, rfl, NO.out, NB.out⟩
  · have hcap : cap ≤ 9223372036854775807 := hcm
    clear hown hh hcs hct hcm hg
    by_cases hc : cap = l.length
    · subst hc
      go_enter Tryz.func28, Tryz.ntmps28
      go_wp2_with ((with_reducible refine gate_builtin (b := .append) (xs := #[.tmp 23, .tmp 24]) rfl ?_); at_builtin; refine Kd.R_append k35 (w0 := w0) base rfl (.tmp 23) (.tmp 24) 22 35 (.agg #[(.string ⟨#[]⟩), (.string ⟨#[]⟩)]) 32 rfl Tryz.underlying22 info35 rfl (by decide) (by omega) (.slice (some ⟨g, 0, none⟩) l.length l.length) l x [.string x.f0, .string x.f1] (fun _ => True) (fun _ => False) rfl rfl ?aP (fun _ hk => hk.elim) ?aF ?aO ?aB ?aS ?aL ?_; (case aP => exact k35_mkM _ _ _ x); (case aB => exact HBB.out); (case aF => exact (fun _ _ => trivial)); (case aO => exact HO.out); (case aS => exact hbase); (case aL => omega); intro v6 w8 ho hb hg hat; have NB := Aside0.mk hb; have NO := Aside0.mk ho; clear ho hb hg hat)
      go_ret
      exact ⟨_, rfl, NO.out, NB.out⟩
    · go_enter Tryz.func28, Tryz.ntmps28
      go_wp2_with ((with_reducible refine gate_builtin (b := .append) (xs := #[.tmp 23, .tmp 24]) rfl ?_); at_builtin; refine Kd.R_append k35 (w0 := w0) base rfl (.tmp 23) (.tmp 24) 22 35 (.agg #[(.string ⟨#[]⟩), (.string ⟨#[]⟩)]) 32 rfl Tryz.underlying22 info35 rfl (by decide) (by omega) (.slice (some ⟨g, 0, none⟩) l.length cap) l x [.string x.f0, .string x.f1] (fun _ => True) (fun _ => False) rfl rfl ?aP (fun _ hk => hk.elim) ?aF ?aO ?aB ?aS ?aL ?_; (case aP => exact k35_mkM _ _ _ x); (case aB => exact HBB.out); (case aF => exact (fun _ _ => trivial)); (case aO => exact HO.out); (case aS => exact hbase); (case aL => omega); intro v6 w8 ho hb hg hat; have NB := Aside0.mk hb; have NO := Aside0.mk ho; clear ho hb hg hat)
      go_ret
      exact ⟨_, rfl, NO.out, NB.out⟩

theorem insert_calls (base : Nat) (ok : Nat → Prop) (v : Value) (l : List Lab) (x : Lab) (i : Nat) (hi : i ≤ l.length) (w0 w : World) (hlen : l.length ≤ 1000000) (hO : Kd.R k35 35 w base ok v l) (hbase : base ≤ w.heap.size) (hB : Below base w0 w) :
    Calls Tryz.prog 28 #[v, .int .i64 i, .slice (some ⟨w.heap.size, 0, none⟩) 1 1] (w.alloc (.cells #[.string x.f0, .string x.f1] 35)) fun e w' =>
      ∃ v', e = .returned v' ∧ Kd.R k35 35 w' base (fun _ => True) v' (l.take i ++ x :: l.drop i) ∧ Below base w0 w' := by
  by_cases he : i = l.length
  · subst he
    rw [List.take_length, List.drop_length]
    exact insert_end base ok v l x w0 w hlen hO hbase hB
  · have hown := lab_own hO
    rcases hown.2 with ⟨rfl, h0⟩ | ⟨g, cap, cur, rfl, hg, hh, hnc, hcm, hcs, hct⟩
    · omega
    · have hgl := blk_lt hh
      have hh2 : (w.alloc (.cells #[.string x.f0, .string x.f1] 35)).heap[g]? = some (.cells cur.toList.toArray 35 (0, 0)) := by
        rw [Array.toArray_toList]; exact blk_alloc hh _
      have hv2 := blk_new w (.cells #[.string x.f0, .string x.f1] 35)
      have hlc : cur.toList.length = cap * 2 := by rw [Array.length_toList]; exact hcs
      have hone : ∀ v ∈ cur.toList.take (l.length * 2), v.oneCell' = true := by rw [hct]; exact labCells_one l
      have hBa : Below base w0 (w.alloc (.cells #[.string x.f0, .string x.f1] 35)) := below_then hB hbase (below_alloc (Below.refl _ _) _)
      have hlen2 : (l.take i ++ x :: l.drop i).length = l.length + 1 := by simp; omega
      by_cases hr : l.length + 1 ≤ cap
      · refine (insert_shift base g cap l.length i w.heap.size cur.toList x w0 _ (by omega) hr hcm hlc hone hh2 hv2 (by omega) hg hBa).mono ?_
        rintro e w' ⟨rfl, h1, h2⟩
        refine ⟨_, rfl, R_lab ?_, h2⟩
        rw [hlen2]
        rw [show (i + 1) * 2 = i * 2 + 2 by omega, splice_down _ _ _ (i * 2) rfl (by omega)] at h1
        have hcsl : ((cur.toList.take (l.length * 2)).drop (i * 2)).length = (l.length - i) * 2 := by rw [List.length_drop, List.length_take, hlc]; omega
        refine ⟨by rw [labCells_len, hlen2], .inr ⟨g, cap, _, rfl, hg, h1, hr, hcm, ?_, ?_⟩⟩
        · simp only [List.size_toArray, List.length_append, List.length_take, List.length_drop, List.length_cons, List.length_nil, hlc]
          omega
        · exact lab_mid l x i hi cur.toList _ hct
      · refine (insert_grow base g cap l.length i w.heap.size cur.toList x w0 _ (by omega) hnc (by omega) hlen hlc hone hh2 hv2 (Nat.le_trans hbase (below_size (below_alloc (Below.refl _ _) _))) hBa).mono ?_
        rintro e w' ⟨G, row, rfl, h3, h4, h5, h6, h1, h2⟩
        refine ⟨_, rfl, R_lab ?_, h2⟩
        rw [hlen2]
        rw [show (i + 1) * 2 = i * 2 + 2 by omega, splice_up _ _ _ (i * 2) rfl (by omega), h6] at h1
        have hcsl : ((cur.toList.take (l.length * 2)).drop (i * 2)).length = (l.length - i) * 2 := by rw [List.length_drop, List.length_take, hlc]; omega
        refine ⟨by rw [labCells_len, hlen2], .inr ⟨_, G, _, rfl, Nat.le_trans hbase (below_size (below_alloc (Below.refl _ _) _)), h1, h3, h4, ?_, ?_⟩⟩
        · simp only [List.size_toArray, List.length_append, List.length_take, List.length_drop, List.length_cons, List.length_nil, hlc, h5]
          omega
        · exact lab_mid l x i hi cur.toList _ hct
end Go.Proofs.YtnmofpefofkoeaaGreatDoor
