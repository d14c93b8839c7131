/- LexAll: what stands between the tokens is blanks alone, and each token's bytes tell it; its tied card, of all texts. -/
import Derived.Test.YtioofhilohmfbaaGreatDoorBAll5
section
namespace Go.Proofs.YtioofhilohmfbaaGreatDoor.P
open Go.RowKit Go.Proofs.YtioofhilohmfbaaGreatDoorW.PrintWords Go.Proofs.YtioofhilohmfbaaGreatDoorW.PrintLast Go.Proofs.YtioofhilohmfbaaGreatDoorW.PrintMore
attribute [local go_sem] max2_int min2_int max_two min_two max_three min_three max_four min_four
set_option linter.unusedVariables false
set_option linter.unusedSimpArgs false
/-! ### driftnetlaw20_LexAll: function 5 -/
mutual
def driftnetlaw20_LexAll.l0 : Nat → ByteArray → List (S32) → Int → Int → Option (Bool)
  | 0, _, _, _, _ => none
  | k + 1, x0, x3, x6, x7 => if x7 ≥ 0 then (if 0 ≤ x7 then (if x7 < (x3.length : Int) then (if ((rd_T32 x3 x7).f2) < 0 then (driftnetlaw20_LexAll.j1 k x0 x3 x6 x7 true ((rd_T32 x3 x7).f0) ((rd_T32 x3 x7).f1) ((rd_T32 x3 x7).f2)) else (if ((rd_T32 x3 x7).f2) ≥ x6 then (driftnetlaw20_LexAll.j1 k x0 x3 x6 x7 true ((rd_T32 x3 x7).f0) ((rd_T32 x3 x7).f1) ((rd_T32 x3 x7).f2)) else (driftnetlaw20_LexAll.j1 k x0 x3 x6 x7 (decide (((rd_T32 x3 x7).f2) > (x0.size : Int))) ((rd_T32 x3 x7).f0) ((rd_T32 x3 x7).f1) ((rd_T32 x3 x7).f2)))) else (none)) else (none)) else (if 0 ≤ x6 then (if x6 ≤ (x0.size : Int) then ((strings_Trim.f (x0.extract 0 (x6 : Int).toNat) (⟨#[32, 9, 10, 13]⟩ : ByteArray)).bind fun t10 => (if t10.toList = ([] : List UInt8) then ((driftnetlaw20_awake.f k).bind fun t11 => (some t11)) else (some false))) else (none)) else (none))
def driftnetlaw20_LexAll.j1 : Nat → ByteArray → List (S32) → Int → Int → Bool → Int → ByteArray → Int → Option (Bool)
  | 0, _, _, _, _, _, _, _, _ => none
  | k + 1, x0, x3, x6, x7, x83, x14000, x14001, x14002 => if x83 = true then (some false) else (if 0 ≤ x14002 then (if x14002 ≤ x6 then (if x6 ≤ (x0.size : Int) then ((strings_TrimRight.f (x0.extract (x14002 : Int).toNat (x6 : Int).toNat) (⟨#[32, 9, 10, 13]⟩ : ByteArray)).bind fun t14 => (if x14000 = 2 then ((quote_Unquote.f t14).bind fun bt15 => (if bt15.2 = 0 then (if bt15.1.toList = x14001.toList then (driftnetlaw20_LexAll.l0 k x0 x3 x14002 (wrap64 (x7 - 1))) else (some false)) else (some false))) else (if x14000 = 3 then ((measure_Number.f t14).bind fun bt17 => (if bt17.2.2.2 = 4 then (some false) else (if t14.toList = x14001.toList then (driftnetlaw20_LexAll.l0 k x0 x3 x14002 (wrap64 (x7 - 1))) else (some false)))) else (if t14.toList = x14001.toList then (if t14.toList = ([] : List UInt8) then (some false) else (driftnetlaw20_LexAll.l0 k x0 x3 x14002 (wrap64 (x7 - 1)))) else (some false))))) else (none)) else (none)) else (none))
end
def driftnetlaw20_LexAll.f (k : Nat) (a0 : ByteArray) : Option (Bool) := (lex_Tokens.f k a0).bind fun bt1 => (if bt1.2.2 = 0 then (driftnetlaw20_LexAll.l0 k a0 bt1.1 (a0.size : Int) (wrap64 ((bt1.1.length : Int) - 1))) else (if bt1.2.2 = 5 then (if (a0.size : Int) > 4096 then (if bt1.2.1 = 0 then (if (bt1.1.length : Int) = 0 then ((driftnetlaw20_awake.f k).bind fun t6 => (some t6)) else (some false)) else (if bt1.2.2 = 200 then (if bt1.2.1 ≥ 0 then (if bt1.2.1 < (a0.size : Int) then (if (bt1.1.length : Int) = 0 then ((driftnetlaw20_awake.f k).bind fun t7 => (some t7)) else (some false)) else (some false)) else (some false)) else (some false))) else (if bt1.2.2 = 200 then (if bt1.2.1 ≥ 0 then (if bt1.2.1 < (a0.size : Int) then (if (bt1.1.length : Int) = 0 then ((driftnetlaw20_awake.f k).bind fun t8 => (some t8)) else (some false)) else (some false)) else (some false)) else (some false))) else (if bt1.2.2 = 200 then (if bt1.2.1 ≥ 0 then (if bt1.2.1 < (a0.size : Int) then (if (bt1.1.length : Int) = 0 then ((driftnetlaw20_awake.f k).bind fun t9 => (some t9)) else (some false)) else (some false)) else (some false)) else (some false))))
theorem driftnetlaw20_LexAll.mono_l : ∀ k, (∀ y0 y1 y2 y3, LeO (driftnetlaw20_LexAll.l0 k y0 y1 y2 y3) (driftnetlaw20_LexAll.l0 (k + 1) y0 y1 y2 y3)) ∧ (∀ y0 y1 y2 y3 y4 y5 y6 y7, LeO (driftnetlaw20_LexAll.j1 k y0 y1 y2 y3 y4 y5 y6 y7) (driftnetlaw20_LexAll.j1 (k + 1) y0 y1 y2 y3 y4 y5 y6 y7))
  | 0 => ⟨fun _ _ _ _ r h => by simp [driftnetlaw20_LexAll.l0] at h, fun _ _ _ _ _ _ _ _ r h => by simp [driftnetlaw20_LexAll.j1] at h⟩
  | k + 1 => by
    obtain ⟨ih0, ih1⟩ := driftnetlaw20_LexAll.mono_l k
    refine ⟨?_, ?_⟩
    · intro y0 y1 y2 y3
      unfold driftnetlaw20_LexAll.l0
      repeat' first
      | (with_reducible exact ih0 _ _ _ _)
      | (with_reducible exact ih1 _ _ _ _ _ _ _ _)
      | (with_reducible exact driftnetlaw20_awake.mono _)
      | (with_reducible exact lex_Tokens.mono _ _)
      | (with_reducible exact LeO.refl _)
      | (with_reducible exact LeO.none _)
      | (with_reducible refine LeO.ite ?_ ?_)
      | (with_reducible refine LeO.bind ?_ (fun _ => ?_))
      | exact ih0 _ _ _ _
      | exact ih1 _ _ _ _ _ _ _ _
      | exact driftnetlaw20_awake.mono _
      | exact lex_Tokens.mono _ _
      | exact LeO.none _
      | refine LeO.ite ?_ ?_
      | refine LeO.bind ?_ (fun _ => ?_)
    · intro y0 y1 y2 y3 y4 y5 y6 y7
      unfold driftnetlaw20_LexAll.j1
      repeat' first
      | (with_reducible exact ih0 _ _ _ _)
      | (with_reducible exact ih1 _ _ _ _ _ _ _ _)
      | (with_reducible exact driftnetlaw20_awake.mono _)
      | (with_reducible exact lex_Tokens.mono _ _)
      | (with_reducible exact LeO.refl _)
      | (with_reducible exact LeO.none _)
      | (with_reducible refine LeO.ite ?_ ?_)
      | (with_reducible refine LeO.bind ?_ (fun _ => ?_))
      | exact ih0 _ _ _ _
      | exact ih1 _ _ _ _ _ _ _ _
      | exact driftnetlaw20_awake.mono _
      | exact lex_Tokens.mono _ _
      | exact LeO.none _
      | refine LeO.ite ?_ ?_
      | refine LeO.bind ?_ (fun _ => ?_)
theorem driftnetlaw20_LexAll.mono : ∀ a0 k, LeO (driftnetlaw20_LexAll.f k a0) (driftnetlaw20_LexAll.f (k + 1) a0) := by
  intro a0 k
  obtain ⟨ih0, ih1⟩ := driftnetlaw20_LexAll.mono_l k
  unfold driftnetlaw20_LexAll.f
  repeat' first
      | (with_reducible exact ih0 _ _ _ _)
      | (with_reducible exact ih1 _ _ _ _ _ _ _ _)
      | (with_reducible exact driftnetlaw20_awake.mono _)
      | (with_reducible exact lex_Tokens.mono _ _)
      | (with_reducible exact LeO.refl _)
      | (with_reducible exact LeO.none _)
      | (with_reducible refine LeO.ite ?_ ?_)
      | (with_reducible refine LeO.bind ?_ (fun _ => ?_))
      | exact ih0 _ _ _ _
      | exact ih1 _ _ _ _ _ _ _ _
      | exact driftnetlaw20_awake.mono _
      | exact lex_Tokens.mono _ _
      | exact LeO.none _
      | refine LeO.ite ?_ ?_
      | refine LeO.bind ?_ (fun _ => ?_)
set_option maxHeartbeats 8000000 in
set_option maxRecDepth 100000 in
theorem driftnetlaw20_LexAll.calls (k : Nat) (a0 : ByteArray) (r : Bool) (w : World) (hG : Aside0 (G w)) (h : driftnetlaw20_LexAll.f k a0 = some r) :
    Calls Tryz.prog 5 #[.string a0] w fun e w' => e = .returned (.bool r) ∧ Below w.heap.size w w' := by
  have hu32 := Tryz.underlying32
  have hu41 := Tryz.underlying41
  have HB := Aside0.mk (Below.refl w.heap.size w)
  have H : ((lex_Tokens.f k a0).bind fun bt1 => (if bt1.2.2 = 0 then (driftnetlaw20_LexAll.l0 k a0 bt1.1 (a0.size : Int) (wrap64 ((bt1.1.length : Int) - 1))) else (if bt1.2.2 = 5 then (if (a0.size : Int) > 4096 then (if bt1.2.1 = 0 then (if (bt1.1.length : Int) = 0 then ((driftnetlaw20_awake.f k).bind fun t6 => (some t6)) else (some false)) else (if bt1.2.2 = 200 then (if bt1.2.1 ≥ 0 then (if bt1.2.1 < (a0.size : Int) then (if (bt1.1.length : Int) = 0 then ((driftnetlaw20_awake.f k).bind fun t7 => (some t7)) else (some false)) else (some false)) else (some false)) else (some false))) else (if bt1.2.2 = 200 then (if bt1.2.1 ≥ 0 then (if bt1.2.1 < (a0.size : Int) then (if (bt1.1.length : Int) = 0 then ((driftnetlaw20_awake.f k).bind fun t8 => (some t8)) else (some false)) else (some false)) else (some false)) else (some false))) else (if bt1.2.2 = 200 then (if bt1.2.1 ≥ 0 then (if bt1.2.1 < (a0.size : Int) then (if (bt1.1.length : Int) = 0 then ((driftnetlaw20_awake.f k).bind fun t9 => (some t9)) else (some false)) else (some false)) else (some false)) else (some false))))) = some r := h
  clear h
  replace H := Option.bind_eq_some_iff.mp H
  obtain ⟨⟨t1, t2, t3⟩, A20, H⟩ := H
  replace H : (if t3 = 0 then (driftnetlaw20_LexAll.l0 k a0 t1 (a0.size : Int) (wrap64 ((t1.length : Int) - 1))) else (if t3 = 5 then (if (a0.size : Int) > 4096 then (if t2 = 0 then (if (t1.length : Int) = 0 then ((driftnetlaw20_awake.f k).bind fun t6 => (some t6)) else (some false)) else (if t3 = 200 then (if t2 ≥ 0 then (if t2 < (a0.size : Int) then (if (t1.length : Int) = 0 then ((driftnetlaw20_awake.f k).bind fun t7 => (some t7)) else (some false)) else (some false)) else (some false)) else (some false))) else (if t3 = 200 then (if t2 ≥ 0 then (if t2 < (a0.size : Int) then (if (t1.length : Int) = 0 then ((driftnetlaw20_awake.f k).bind fun t8 => (some t8)) else (some false)) else (some false)) else (some false)) else (some false))) else (if t3 = 200 then (if t2 ≥ 0 then (if t2 < (a0.size : Int) then (if (t1.length : Int) = 0 then ((driftnetlaw20_awake.f k).bind fun t9 => (some t9)) else (some false)) else (some false)) else (some false)) else (some false)))) = some r := H
  have A2 := Aside0.mk A20
  clear A20
  by_cases c3 : t3 = 0
  · rw [if_pos c3] at H
    have c3b0 : (t3 == 0) = true := beq_iff_eq.mpr c3
    have c3b1 : (t3 != 0) = false := bne_eq_false_iff_eq.mpr c3
    clear c3
    have H' := Aside0.mk H
    clear H
    go_enter Tryz.func5, Tryz.ntmps5
    go_wp2_with (first | (go_at_call 8; (with_reducible refine (lex_Tokens.calls k a0 t1 t2 t3 _ ?side1 A2.out).mono ?_); (case side1 => exact G.at hG.out (lc HB.out)); rintro e w4 ⟨v4, rfl, ho0, hb⟩; have n0_ := Aside0.mk (Kd.R_lower ho0 (below_size (lc HB.out))); have n1_ := Aside0.mk (below_step (lc HB.out) hb); clear HB; have HO5 := n0_; have HB := n1_; clear n0_ n1_; (try clear hb); (try clear hb2); (try clear hk); (try clear hi); (try clear ho0); obtain ⟨Ao5, co5, eo5⟩ := Kd.R_slice HO5.out; subst eo5))
    go_loopg [6, 7] k (fun kq v6 v7 w' => ∃ (x6_1 : Int) (x7_1 : Int), v6 = .int .i64 x6_1 ∧ v7 = .int .i64 x7_1 ∧ Aside0 (driftnetlaw20_LexAll.l0 kq a0 t1 x6_1 x7_1 = some r) ∧ Aside0 (kq ≤ k) ∧ Aside0 (Kd.R k32 32 w' w.heap.size (fun _ => True) (.slice Ao5 t1.length co5) t1) ∧ Aside0 (Below w.heap.size w w'))
    case atStart => exact ⟨((a0.size : Int)), (wrap64 ((t1.length : Int) - 1)), (by first | rfl | (simp; done) | (simp [*]; done)), (by first | rfl | (simp; done) | (simp [*]; done)), H', ⟨Nat.le_refl _⟩, ⟨by (with_reducible repeat (first | apply Kd.R_alloc | apply Kd.R_drewN | apply Kd.R_drew)); exact HO5.out⟩, ⟨by exact lc HB.out⟩⟩
    case round =>
      clear H'
      try clear p2
      try clear c3
      try clear c3b0
      try clear c3b1
      try clear c5
      obtain ⟨x6_1, x7_1, rfl, rfl, HA, HK1, HO_3, HB⟩ := hrel
      cases gk with
      | zero => exact absurd HA.out (by simp [driftnetlaw20_LexAll.l0])
      | succ k1 =>
        have H := HA.out
        clear HA
        simp only [driftnetlaw20_LexAll.l0] at H
        by_cases c6 : x7_1 ≥ 0
        · rw [if_pos c6] at H
          have c6b0 : decide (0 ≤ x7_1) = true := decide_eq_true c6
          clear c6
          by_cases c7 : 0 ≤ x7_1
          · rw [if_pos c7] at H
            have c7b0 : decide (0 ≤ x7_1) = true := decide_eq_true c7
            clear c7
            by_cases c8 : x7_1 < (t1.length : Int)
            · rw [if_pos c8] at H
              have c8b0 : decide (x7_1 < (t1.length : Int)) = true := decide_eq_true c8
              clear c8
              have HC9 := Aside0.mk H
              clear H
              have p12 : 0 ≤ (x7_1 : Int) := of_decide_eq_true (by first | (with_reducible assumption) | assumption)
              have q12 : x7_1 < (t1.length : Int) := of_decide_eq_true (by first | (with_reducible assumption) | assumption)
              obtain ⟨ad12, e12, hx12_0, hx12_1, hx12_2⟩ := at_T32 (Kd.R_reads' HO_3.out).2.2 x7_1 p12 q12
              cases e12
              replace p12 := eq_true p12
              replace q12 := eq_true q12
              go_upto_region 9 with (first | ((with_reducible refine gate_dst (N := 8) rfl ?_); (try (refine gate_guard (by rfl) ?_; dsimp only)); refine box_event ?hg (N := 8) ?hd (cs := #[.int .i64 0, .string (⟨#[]⟩ : ByteArray), .int .i64 0]) (t := 32) ?hr ?_; (case hd => rfl); (case hg => rfl); (case hr => first | (go_simp; done) | (go_simp; rfl)); intro gb13 hg w10 hbox hb; have n0_ := Aside0.mk (Kd.R_below (Kd.R_elderB (rc HO_3.out) gb13 (Nat.le_of_eq hg.symm)) hb); have n1_ := Aside0.mk (below_step (lc HB.out) hb); have n2_ := Aside0.mk (hbox); have n3_ := Aside0.mk ((by rw [hg]; exact (below_size (lc HB.out)) : w.heap.size ≤ gb13)); have n4_ := Aside0.mk ((by rw [hg]; exact (below_size (lc HB.out)) : w.heap.size ≤ gb13)); clear HO_3; clear HB; have HO_3 := n0_; have HB := n1_; have BK13 := n2_; have GW13 := n3_; have GE13 := n4_; clear n0_ n1_ n2_ n3_ n4_; clear hb hbox hg; have hcz11_0 : w10.cell? ⟨gb13, 0, none⟩ = some (.int .i64 0) := (blk_cell BK13.out 0).trans rfl; have hcz11_1 : w10.cell? ⟨gb13, 1, none⟩ = some (.string (⟨#[]⟩ : ByteArray)) := (blk_cell BK13.out 1).trans rfl; have hcz11_2 : w10.cell? ⟨gb13, 2, none⟩ = some (.int .i64 0) := (blk_cell BK13.out 2).trans rfl; have hfz11_0 := blk_frozen BK13.out 0; have hfz11_1 := blk_frozen BK13.out 1; have hfz11_2 := blk_frozen BK13.out 2))
              (try simp only [Act.put, List.setIfInBounds_toArray, List.set_cons_zero, List.set_cons_succ])
              go_cut [83] (fun v83 wc => ∃ (kq : Nat) (x83_8 : Bool), v83 = .bool x83_8 ∧ Aside0 (driftnetlaw20_LexAll.j1 kq a0 t1 x6_1 x7_1 x83_8 ((rd_T32 t1 x7_1).f0) ((rd_T32 t1 x7_1).f1) ((rd_T32 t1 x7_1).f2) = some r) ∧ Aside0 (kq ≤ k1) ∧ Aside0 (Kd.R k32 32 wc w.heap.size (fun k_ => k_ ≠ gb13) (.slice (some ad12) t1.length co5) t1) ∧ Aside0 (wc.heap[gb13]? = some (.cells #[.int .i64 ((rd_T32 t1 x7_1).f0), .string ((rd_T32 t1 x7_1).f1), .int .i64 ((rd_T32 t1 x7_1).f2)] 32 (0, 0))) ∧ Aside0 (Below w.heap.size w wc))
              case first =>
                have H := HC9.out
                clear HC9
                by_cases c12 : ((rd_T32 t1 x7_1).f2) < 0
                · rw [if_pos c12] at H
                  have c12b0 : decide (((rd_T32 t1 x7_1).f2) < 0) = true := decide_eq_true c12
                  clear c12
                  (first | rw [c12b0] | (simp only [i64_w, i32_w]; rw [c12b0]) | skip)
                  have H' := Aside0.mk H
                  clear H
                  have hcz13_0 : w10.cell? ⟨gb13, 0, none⟩ = some (.int .i64 0) := (blk_cell BK13.out 0).trans rfl
                  have hcz13_1 : w10.cell? ⟨gb13, 1, none⟩ = some (.string (⟨#[]⟩ : ByteArray)) := (blk_cell BK13.out 1).trans rfl
                  have hcz13_2 : w10.cell? ⟨gb13, 2, none⟩ = some (.int .i64 0) := (blk_cell BK13.out 2).trans rfl
                  have hfz13_0 := blk_frozen BK13.out 0
                  have hfz13_1 := blk_frozen BK13.out 1
                  have hfz13_2 := blk_frozen BK13.out 2
                  go_wp2
                  go_meet
                  case rel => exact ⟨_, (true), (by first | rfl | (simp; done) | (simp [*]; done)), H', ⟨by have := HK1.out; first | omega | exact Nat.le_refl _⟩, ⟨by (with_reducible repeat (first | apply Kd.R_alloc | apply Kd.R_drewN | apply Kd.R_drew)); exact Kd.R_mono (Kd.R_far (p := ⟨gb13, 2, none⟩) (Kd.R_far (p := ⟨gb13, 1, none⟩) (Kd.R_far (p := ⟨gb13, 0, none⟩) (Kd.R_mono HO_3.out (fun k_ hk => (⟨hk, hk.2⟩ : _ ∧ k_ ≠ gb13))) (fun _ hk => hk.2) (.int .i64 ((rd_T32 t1 x7_1).f0))) (fun _ hk => hk.2) (.string ((rd_T32 t1 x7_1).f1))) (fun _ hk => hk.2) (.int .i64 ((rd_T32 t1 x7_1).f2))) (fun _ hk => hk.1.2)⟩, ⟨by (with_reducible repeat (first | refine blk_drewN ?_ _ | refine blk_drew ?_ | refine blk_alloc ?_ _)); refine blk_put (cs := #[.int .i64 ((rd_T32 t1 x7_1).f0), .string ((rd_T32 t1 x7_1).f1), .int .i64 0]) ?_ 2 _ rfl; (with_reducible repeat (first | refine blk_drewN ?_ _ | refine blk_drew ?_ | refine blk_alloc ?_ _)); refine blk_put (cs := #[.int .i64 ((rd_T32 t1 x7_1).f0), .string (⟨#[]⟩ : ByteArray), .int .i64 0]) ?_ 1 _ rfl; (with_reducible repeat (first | refine blk_drewN ?_ _ | refine blk_drew ?_ | refine blk_alloc ?_ _)); refine blk_put (cs := #[.int .i64 0, .string (⟨#[]⟩ : ByteArray), .int .i64 0]) ?_ 0 _ rfl; (with_reducible repeat (first | refine blk_drewN ?_ _ | refine blk_drew ?_ | refine blk_alloc ?_ _)); exact BK13.out⟩, ⟨by repeat (first | (with_reducible first | exact HB.out | apply below_alloc | apply pw_below_drewN | apply below_drew1 | refine below_set ?_ GE13.out) | exact HB.out)⟩⟩
                · rw [if_neg c12] at H
                  have c12b0 : decide (((rd_T32 t1 x7_1).f2) < 0) = false := decide_eq_false c12
                  clear c12
                  (first | rw [c12b0] | (simp only [i64_w, i32_w]; rw [c12b0]) | skip)
                  by_cases c14 : ((rd_T32 t1 x7_1).f2) ≥ x6_1
                  · rw [if_pos c14] at H
                    have c14b0 : decide (x6_1 ≤ ((rd_T32 t1 x7_1).f2)) = true := decide_eq_true c14
                    clear c14
                    have H' := Aside0.mk H
                    clear H
                    have hcz15_0 : w10.cell? ⟨gb13, 0, none⟩ = some (.int .i64 0) := (blk_cell BK13.out 0).trans rfl
                    have hcz15_1 : w10.cell? ⟨gb13, 1, none⟩ = some (.string (⟨#[]⟩ : ByteArray)) := (blk_cell BK13.out 1).trans rfl
                    have hcz15_2 : w10.cell? ⟨gb13, 2, none⟩ = some (.int .i64 0) := (blk_cell BK13.out 2).trans rfl
                    have hfz15_0 := blk_frozen BK13.out 0
                    have hfz15_1 := blk_frozen BK13.out 1
                    have hfz15_2 := blk_frozen BK13.out 2
                    go_wp2
                    go_meet
                    case rel => exact ⟨_, (true), (by first | rfl | (simp; done) | (simp [*]; done)), H', ⟨by have := HK1.out; first | omega | exact Nat.le_refl _⟩, ⟨by (with_reducible repeat (first | apply Kd.R_alloc | apply Kd.R_drewN | apply Kd.R_drew)); exact Kd.R_mono (Kd.R_far (p := ⟨gb13, 2, none⟩) (Kd.R_far (p := ⟨gb13, 1, none⟩) (Kd.R_far (p := ⟨gb13, 0, none⟩) (Kd.R_mono HO_3.out (fun k_ hk => (⟨hk, hk.2⟩ : _ ∧ k_ ≠ gb13))) (fun _ hk => hk.2) (.int .i64 ((rd_T32 t1 x7_1).f0))) (fun _ hk => hk.2) (.string ((rd_T32 t1 x7_1).f1))) (fun _ hk => hk.2) (.int .i64 ((rd_T32 t1 x7_1).f2))) (fun _ hk => hk.1.2)⟩, ⟨by (with_reducible repeat (first | refine blk_drewN ?_ _ | refine blk_drew ?_ | refine blk_alloc ?_ _)); refine blk_put (cs := #[.int .i64 ((rd_T32 t1 x7_1).f0), .string ((rd_T32 t1 x7_1).f1), .int .i64 0]) ?_ 2 _ rfl; (with_reducible repeat (first | refine blk_drewN ?_ _ | refine blk_drew ?_ | refine blk_alloc ?_ _)); refine blk_put (cs := #[.int .i64 ((rd_T32 t1 x7_1).f0), .string (⟨#[]⟩ : ByteArray), .int .i64 0]) ?_ 1 _ rfl; (with_reducible repeat (first | refine blk_drewN ?_ _ | refine blk_drew ?_ | refine blk_alloc ?_ _)); refine blk_put (cs := #[.int .i64 0, .string (⟨#[]⟩ : ByteArray), .int .i64 0]) ?_ 0 _ rfl; (with_reducible repeat (first | refine blk_drewN ?_ _ | refine blk_drew ?_ | refine blk_alloc ?_ _)); exact BK13.out⟩, ⟨by repeat (first | (with_reducible first | exact HB.out | apply below_alloc | apply pw_below_drewN | apply below_drew1 | refine below_set ?_ GE13.out) | exact HB.out)⟩⟩
                  · rw [if_neg c14] at H
                    have c14b0 : decide (x6_1 ≤ ((rd_T32 t1 x7_1).f2)) = false := decide_eq_false c14
                    clear c14
                    have H' := Aside0.mk H
                    clear H
                    have hcz16_0 : w10.cell? ⟨gb13, 0, none⟩ = some (.int .i64 0) := (blk_cell BK13.out 0).trans rfl
                    have hcz16_1 : w10.cell? ⟨gb13, 1, none⟩ = some (.string (⟨#[]⟩ : ByteArray)) := (blk_cell BK13.out 1).trans rfl
                    have hcz16_2 : w10.cell? ⟨gb13, 2, none⟩ = some (.int .i64 0) := (blk_cell BK13.out 2).trans rfl
                    have hfz16_0 := blk_frozen BK13.out 0
                    have hfz16_1 := blk_frozen BK13.out 1
                    have hfz16_2 := blk_frozen BK13.out 2
                    go_wp2
                    go_meet
                    case rel => exact ⟨_, (decide (((rd_T32 t1 x7_1).f2) > (a0.size : Int))), (by first | rfl | (simp; done) | (simp [*]; done)), H', ⟨by have := HK1.out; first | omega | exact Nat.le_refl _⟩, ⟨by (with_reducible repeat (first | apply Kd.R_alloc | apply Kd.R_drewN | apply Kd.R_drew)); exact Kd.R_mono (Kd.R_far (p := ⟨gb13, 2, none⟩) (Kd.R_far (p := ⟨gb13, 1, none⟩) (Kd.R_far (p := ⟨gb13, 0, none⟩) (Kd.R_mono HO_3.out (fun k_ hk => (⟨hk, hk.2⟩ : _ ∧ k_ ≠ gb13))) (fun _ hk => hk.2) (.int .i64 ((rd_T32 t1 x7_1).f0))) (fun _ hk => hk.2) (.string ((rd_T32 t1 x7_1).f1))) (fun _ hk => hk.2) (.int .i64 ((rd_T32 t1 x7_1).f2))) (fun _ hk => hk.1.2)⟩, ⟨by (with_reducible repeat (first | refine blk_drewN ?_ _ | refine blk_drew ?_ | refine blk_alloc ?_ _)); refine blk_put (cs := #[.int .i64 ((rd_T32 t1 x7_1).f0), .string ((rd_T32 t1 x7_1).f1), .int .i64 0]) ?_ 2 _ rfl; (with_reducible repeat (first | refine blk_drewN ?_ _ | refine blk_drew ?_ | refine blk_alloc ?_ _)); refine blk_put (cs := #[.int .i64 ((rd_T32 t1 x7_1).f0), .string (⟨#[]⟩ : ByteArray), .int .i64 0]) ?_ 1 _ rfl; (with_reducible repeat (first | refine blk_drewN ?_ _ | refine blk_drew ?_ | refine blk_alloc ?_ _)); refine blk_put (cs := #[.int .i64 0, .string (⟨#[]⟩ : ByteArray), .int .i64 0]) ?_ 0 _ rfl; (with_reducible repeat (first | refine blk_drewN ?_ _ | refine blk_drew ?_ | refine blk_alloc ?_ _)); exact BK13.out⟩, ⟨by repeat (first | (with_reducible first | exact HB.out | apply below_alloc | apply pw_below_drewN | apply below_drew1 | refine below_set ?_ GE13.out) | exact HB.out)⟩⟩
              case rest =>
                clear HC9
                try clear c1
                try clear p1
                try clear q1
                try clear hx1
                try clear p2
                try clear c3
                try clear c3b0
                try clear c3b1
                try clear c5
                try clear c6
                try clear c6b0
                try clear p6
                try clear c7
                try clear c7b0
                try clear c8
                try clear c8b0
                try clear c12
                try clear c12b0
                try clear p12
                try clear q12
                try clear hx12
                try clear c14
                try clear c14b0
                try clear hcz11_0
                try clear hcz11_1
                try clear hcz11_2
                try clear hcz13_0
                try clear hcz13_1
                try clear hcz13_2
                try clear hcz15_0
                try clear hcz15_1
                try clear hcz15_2
                try clear hcz16_0
                try clear hcz16_1
                try clear hcz16_2
                try clear hfz11_0
                try clear hfz11_1
                try clear hfz11_2
                try clear hfz13_0
                try clear hfz13_1
                try clear hfz13_2
                try clear hfz15_0
                try clear hfz15_1
                try clear hfz15_2
                try clear hfz16_0
                try clear hfz16_1
                try clear hfz16_2
                try clear hx12_0
                try clear hx12_1
                try clear hx12_2
                try clear p12
                try clear p2
                try clear q12
                obtain ⟨kq, x83_8, rfl, HA, HJ8, HO_3, BK13, HB⟩ := hcut
                cases kq with
                | zero => exact absurd HA.out (by simp [driftnetlaw20_LexAll.j1])
                | succ kj8 =>
                  have H := HA.out
                  clear HA
                  simp only [driftnetlaw20_LexAll.j1] at H
                  by_cases c17 : x83_8 = true
                  · subst c17
                    have H1 : (some false) = some r := by rw [if_pos rfl] at H; exact H
                    clear H
                    have H := H1
                    clear H1
                    obtain rfl := Option.some.inj H
                    go_wp2
                    go_ret
                    exact ⟨by first | rfl | (simp [errW_none, errW_some] <;> rfl) | (simp [*, errW_none, errW_some] <;> rfl), by repeat (first | (with_reducible first | exact HB.out | apply below_alloc | apply pw_below_drewN | apply below_drew1 | refine below_set ?_ GE13.out) | exact HB.out)⟩
                  · replace c17 := Bool.eq_false_iff.mpr c17
                    subst c17
                    have H1 : (if 0 ≤ ((rd_T32 t1 x7_1).f2) then (if ((rd_T32 t1 x7_1).f2) ≤ x6_1 then (if x6_1 ≤ (a0.size : Int) then ((strings_TrimRight.f (a0.extract (((rd_T32 t1 x7_1).f2) : Int).toNat (x6_1 : Int).toNat) (⟨#[32, 9, 10, 13]⟩ : ByteArray)).bind fun t14 => (if ((rd_T32 t1 x7_1).f0) = 2 then ((quote_Unquote.f t14).bind fun bt15 => (if bt15.2 = 0 then (if bt15.1.toList = ((rd_T32 t1 x7_1).f1).toList then (driftnetlaw20_LexAll.l0 kj8 a0 t1 ((rd_T32 t1 x7_1).f2) (wrap64 (x7_1 - 1))) else (some false)) else (some false))) else (if ((rd_T32 t1 x7_1).f0) = 3 then ((measure_Number.f t14).bind fun bt17 => (if bt17.2.2.2 = 4 then (some false) else (if t14.toList = ((rd_T32 t1 x7_1).f1).toList then (driftnetlaw20_LexAll.l0 kj8 a0 t1 ((rd_T32 t1 x7_1).f2) (wrap64 (x7_1 - 1))) else (some false)))) else (if t14.toList = ((rd_T32 t1 x7_1).f1).toList then (if t14.toList = ([] : List UInt8) then (some false) else (driftnetlaw20_LexAll.l0 kj8 a0 t1 ((rd_T32 t1 x7_1).f2) (wrap64 (x7_1 - 1)))) else (some false))))) else (none)) else (none)) else (none)) = some r := by rw [if_neg (show ¬ (false = true) by decide)] at H; exact H
                    clear H
                    have H := H1
                    clear H1
                    by_cases c18 : 0 ≤ ((rd_T32 t1 x7_1).f2)
                    · rw [if_pos c18] at H
                      have c18b0 := eq_true c18
                      have c18b1 : decide (0 ≤ ((rd_T32 t1 x7_1).f2)) = true := decide_eq_true c18
                      clear c18
                      by_cases c19 : ((rd_T32 t1 x7_1).f2) ≤ x6_1
                      · rw [if_pos c19] at H
                        have c19b0 := eq_true c19
                        have c19b1 : decide (((rd_T32 t1 x7_1).f2) ≤ x6_1) = true := decide_eq_true c19
                        clear c19
                        by_cases c20 : x6_1 ≤ (a0.size : Int)
                        · rw [if_pos c20] at H
                          have c20b0 := eq_true c20
                          have c20b1 : decide (x6_1 ≤ (a0.size : Int)) = true := decide_eq_true c20
                          clear c20
                          replace H := Option.bind_eq_some_iff.mp H
                          obtain ⟨t14, A210, H⟩ := H
                          replace H : (if ((rd_T32 t1 x7_1).f0) = 2 then ((quote_Unquote.f t14).bind fun bt15 => (if bt15.2 = 0 then (if bt15.1.toList = ((rd_T32 t1 x7_1).f1).toList then (driftnetlaw20_LexAll.l0 kj8 a0 t1 ((rd_T32 t1 x7_1).f2) (wrap64 (x7_1 - 1))) else (some false)) else (some false))) else (if ((rd_T32 t1 x7_1).f0) = 3 then ((measure_Number.f t14).bind fun bt17 => (if bt17.2.2.2 = 4 then (some false) else (if t14.toList = ((rd_T32 t1 x7_1).f1).toList then (driftnetlaw20_LexAll.l0 kj8 a0 t1 ((rd_T32 t1 x7_1).f2) (wrap64 (x7_1 - 1))) else (some false)))) else (if t14.toList = ((rd_T32 t1 x7_1).f1).toList then (if t14.toList = ([] : List UInt8) then (some false) else (driftnetlaw20_LexAll.l0 kj8 a0 t1 ((rd_T32 t1 x7_1).f2) (wrap64 (x7_1 - 1)))) else (some false)))) = some r := H
                          have A21 := Aside0.mk A210
                          clear A210
                          by_cases c22 : ((rd_T32 t1 x7_1).f0) = 2
                          · rw [if_pos c22] at H
                            have c22b0 : (((rd_T32 t1 x7_1).f0) == 2) = true := beq_iff_eq.mpr c22
                            have c22b1 : (((rd_T32 t1 x7_1).f0) != 2) = false := bne_eq_false_iff_eq.mpr c22
                            clear c22
                            replace H := Option.bind_eq_some_iff.mp H
                            obtain ⟨⟨t15, t16⟩, A230, H⟩ := H
                            replace H : (if t16 = 0 then (if t15.toList = ((rd_T32 t1 x7_1).f1).toList then (driftnetlaw20_LexAll.l0 kj8 a0 t1 ((rd_T32 t1 x7_1).f2) (wrap64 (x7_1 - 1))) else (some false)) else (some false)) = some r := H
                            have A23 := Aside0.mk A230
                            clear A230
                            by_cases c24 : t16 = 0
                            · rw [if_pos c24] at H
                              have c24b0 : (t16 == 0) = true := beq_iff_eq.mpr c24
                              have c24b1 : (t16 != 0) = false := bne_eq_false_iff_eq.mpr c24
                              clear c24
                              by_cases c25 : t15.toList = ((rd_T32 t1 x7_1).f1).toList
                              · rw [if_pos c25] at H
                                have c25b0 : (t15.toList == ((rd_T32 t1 x7_1).f1).toList) = true := beq_iff_eq.mpr c25
                                have c25b1 : (t15.toList != ((rd_T32 t1 x7_1).f1).toList) = false := bne_eq_false_iff_eq.mpr c25
                                clear c25
                                have H' := Aside0.mk H
                                clear H
                                have hcz26_0 : wc.cell? ⟨gb13, 0, none⟩ = some (.int .i64 ((rd_T32 t1 x7_1).f0)) := (blk_cell BK13.out 0).trans rfl
                                have hcz26_1 : wc.cell? ⟨gb13, 1, none⟩ = some (.string ((rd_T32 t1 x7_1).f1)) := (blk_cell BK13.out 1).trans rfl
                                have hcz26_2 : wc.cell? ⟨gb13, 2, none⟩ = some (.int .i64 ((rd_T32 t1 x7_1).f2)) := (blk_cell BK13.out 2).trans rfl
                                have hfz26_0 := blk_frozen BK13.out 0
                                have hfz26_1 := blk_frozen BK13.out 1
                                have hfz26_2 := blk_frozen BK13.out 2
                                go_wp2_with (first | (go_at_call 13; (with_reducible refine (strings_TrimRight.calls (a0.extract (((rd_T32 t1 x7_1).f2) : Int).toNat (x6_1 : Int).toNat) (⟨#[32, 9, 10, 13]⟩ : ByteArray) t14 _ A21.out).mono ?_); rintro e w27 ⟨rfl, hb⟩; have n0_ := Aside0.mk (Kd.R_below (rc HO_3.out) hb); have n1_ := Aside0.mk (blk_below (g := gb13) (o := .cells #[.int .i64 ((rd_T32 t1 x7_1).f0), .string ((rd_T32 t1 x7_1).f1), .int .i64 ((rd_T32 t1 x7_1).f2)] 32 (0, 0)) (bc BK13.out) hb); have n2_ := Aside0.mk (below_step (by repeat (first | (with_reducible first | exact HB.out | apply below_alloc | apply pw_below_drewN | apply below_drew1 | refine below_set ?_ GE13.out) | exact HB.out)) hb); clear HO_3; clear BK13; clear HB; have HO_3 := n0_; have BK13 := n1_; have HB := n2_; clear n0_ n1_ n2_; (try clear hb); (try clear hb2); (try clear hk); (try clear hi); have hcz28_0 : w27.cell? ⟨gb13, 0, none⟩ = some (.int .i64 ((rd_T32 t1 x7_1).f0)) := (blk_cell BK13.out 0).trans rfl; have hcz28_1 : w27.cell? ⟨gb13, 1, none⟩ = some (.string ((rd_T32 t1 x7_1).f1)) := (blk_cell BK13.out 1).trans rfl; have hcz28_2 : w27.cell? ⟨gb13, 2, none⟩ = some (.int .i64 ((rd_T32 t1 x7_1).f2)) := (blk_cell BK13.out 2).trans rfl; have hfz28_0 := blk_frozen BK13.out 0; have hfz28_1 := blk_frozen BK13.out 1; have hfz28_2 := blk_frozen BK13.out 2) | (go_at_call 14; (with_reducible refine (quote_Unquote.calls t14 t15 t16 _ ?side1 A23.out).mono ?_); (case side1 => exact G.at hG.out (by repeat (first | (with_reducible first | exact HB.out | apply below_alloc | apply pw_below_drewN | apply below_drew1 | refine below_set ?_ GE13.out) | exact HB.out))); rintro e w29 ⟨rfl, hb⟩; have n0_ := Aside0.mk (Kd.R_below (rc HO_3.out) hb); have n1_ := Aside0.mk (blk_below (g := gb13) (o := .cells #[.int .i64 ((rd_T32 t1 x7_1).f0), .string ((rd_T32 t1 x7_1).f1), .int .i64 ((rd_T32 t1 x7_1).f2)] 32 (0, 0)) (bc BK13.out) hb); have n2_ := Aside0.mk (below_step (by repeat (first | (with_reducible first | exact HB.out | apply below_alloc | apply pw_below_drewN | apply below_drew1 | refine below_set ?_ GE13.out) | exact HB.out)) hb); clear HO_3; clear BK13; clear HB; have HO_3 := n0_; have BK13 := n1_; have HB := n2_; clear n0_ n1_ n2_; (try clear hb); (try clear hb2); (try clear hk); (try clear hi); have hcz30_0 : w29.cell? ⟨gb13, 0, none⟩ = some (.int .i64 ((rd_T32 t1 x7_1).f0)) := (blk_cell BK13.out 0).trans rfl; have hcz30_1 : w29.cell? ⟨gb13, 1, none⟩ = some (.string ((rd_T32 t1 x7_1).f1)) := (blk_cell BK13.out 1).trans rfl; have hcz30_2 : w29.cell? ⟨gb13, 2, none⟩ = some (.int .i64 ((rd_T32 t1 x7_1).f2)) := (blk_cell BK13.out 2).trans rfl; have hfz30_0 := blk_frozen BK13.out 0; have hfz30_1 := blk_frozen BK13.out 1; have hfz30_2 := blk_frozen BK13.out 2))
                                go_roundg kj8
                                case measure => have := HK1.out; have := HJ8.out; omega
                                case rel => exact ⟨(((rd_T32 t1 x7_1).f2)), (wrap64 (x7_1 - 1)), (by first | rfl | (simp; done) | (simp [*]; done)), (by first | rfl | (simp; done) | (simp [*]; done)), H', ⟨by have := HK1.out; have := HJ8.out; omega⟩, ⟨by (with_reducible repeat (first | apply Kd.R_alloc | apply Kd.R_drewN | apply Kd.R_drew)); exact Kd.R_mono HO_3.out (fun _ hk => trivial)⟩, ⟨by repeat (first | (with_reducible first | exact HB.out | apply below_alloc | apply pw_below_drewN | apply below_drew1 | refine below_set ?_ GE13.out) | exact HB.out)⟩⟩
                              · rw [if_neg c25] at H
                                have c25b0 : (t15.toList == ((rd_T32 t1 x7_1).f1).toList) = false := beq_eq_false_iff_ne.mpr c25
                                have c25b1 : (t15.toList != ((rd_T32 t1 x7_1).f1).toList) = true := bne_iff_ne.mpr c25
                                obtain rfl := Option.some.inj H
                                have hcz31_0 : wc.cell? ⟨gb13, 0, none⟩ = some (.int .i64 ((rd_T32 t1 x7_1).f0)) := (blk_cell BK13.out 0).trans rfl
                                have hcz31_1 : wc.cell? ⟨gb13, 1, none⟩ = some (.string ((rd_T32 t1 x7_1).f1)) := (blk_cell BK13.out 1).trans rfl
                                have hcz31_2 : wc.cell? ⟨gb13, 2, none⟩ = some (.int .i64 ((rd_T32 t1 x7_1).f2)) := (blk_cell BK13.out 2).trans rfl
                                have hfz31_0 := blk_frozen BK13.out 0
                                have hfz31_1 := blk_frozen BK13.out 1
                                have hfz31_2 := blk_frozen BK13.out 2
                                go_wp2_with (first | (go_at_call 13; (with_reducible refine (strings_TrimRight.calls (a0.extract (((rd_T32 t1 x7_1).f2) : Int).toNat (x6_1 : Int).toNat) (⟨#[32, 9, 10, 13]⟩ : ByteArray) t14 _ A21.out).mono ?_); rintro e w32 ⟨rfl, hb⟩; have n0_ := Aside0.mk (Kd.R_below (rc HO_3.out) hb); have n1_ := Aside0.mk (blk_below (g := gb13) (o := .cells #[.int .i64 ((rd_T32 t1 x7_1).f0), .string ((rd_T32 t1 x7_1).f1), .int .i64 ((rd_T32 t1 x7_1).f2)] 32 (0, 0)) (bc BK13.out) hb); have n2_ := Aside0.mk (below_step (by repeat (first | (with_reducible first | exact HB.out | apply below_alloc | apply pw_below_drewN | apply below_drew1 | refine below_set ?_ GE13.out) | exact HB.out)) hb); clear HO_3; clear BK13; clear HB; have HO_3 := n0_; have BK13 := n1_; have HB := n2_; clear n0_ n1_ n2_; (try clear hb); (try clear hb2); (try clear hk); (try clear hi); have hcz33_0 : w32.cell? ⟨gb13, 0, none⟩ = some (.int .i64 ((rd_T32 t1 x7_1).f0)) := (blk_cell BK13.out 0).trans rfl; have hcz33_1 : w32.cell? ⟨gb13, 1, none⟩ = some (.string ((rd_T32 t1 x7_1).f1)) := (blk_cell BK13.out 1).trans rfl; have hcz33_2 : w32.cell? ⟨gb13, 2, none⟩ = some (.int .i64 ((rd_T32 t1 x7_1).f2)) := (blk_cell BK13.out 2).trans rfl; have hfz33_0 := blk_frozen BK13.out 0; have hfz33_1 := blk_frozen BK13.out 1; have hfz33_2 := blk_frozen BK13.out 2) | (go_at_call 14; (with_reducible refine (quote_Unquote.calls t14 t15 t16 _ ?side1 A23.out).mono ?_); (case side1 => exact G.at hG.out (by repeat (first | (with_reducible first | exact HB.out | apply below_alloc | apply pw_below_drewN | apply below_drew1 | refine below_set ?_ GE13.out) | exact HB.out))); rintro e w34 ⟨rfl, hb⟩; have n0_ := Aside0.mk (Kd.R_below (rc HO_3.out) hb); have n1_ := Aside0.mk (blk_below (g := gb13) (o := .cells #[.int .i64 ((rd_T32 t1 x7_1).f0), .string ((rd_T32 t1 x7_1).f1), .int .i64 ((rd_T32 t1 x7_1).f2)] 32 (0, 0)) (bc BK13.out) hb); have n2_ := Aside0.mk (below_step (by repeat (first | (with_reducible first | exact HB.out | apply below_alloc | apply pw_below_drewN | apply below_drew1 | refine below_set ?_ GE13.out) | exact HB.out)) hb); clear HO_3; clear BK13; clear HB; have HO_3 := n0_; have BK13 := n1_; have HB := n2_; clear n0_ n1_ n2_; (try clear hb); (try clear hb2); (try clear hk); (try clear hi); have hcz35_0 : w34.cell? ⟨gb13, 0, none⟩ = some (.int .i64 ((rd_T32 t1 x7_1).f0)) := (blk_cell BK13.out 0).trans rfl; have hcz35_1 : w34.cell? ⟨gb13, 1, none⟩ = some (.string ((rd_T32 t1 x7_1).f1)) := (blk_cell BK13.out 1).trans rfl; have hcz35_2 : w34.cell? ⟨gb13, 2, none⟩ = some (.int .i64 ((rd_T32 t1 x7_1).f2)) := (blk_cell BK13.out 2).trans rfl; have hfz35_0 := blk_frozen BK13.out 0; have hfz35_1 := blk_frozen BK13.out 1; have hfz35_2 := blk_frozen BK13.out 2))
                                go_ret
                                exact ⟨by first | rfl | (simp [errW_none, errW_some] <;> rfl) | (simp [*, errW_none, errW_some] <;> rfl), by repeat (first | (with_reducible first | exact HB.out | apply below_alloc | apply pw_below_drewN | apply below_drew1 | refine below_set ?_ GE13.out) | exact HB.out)⟩
                            · rw [if_neg c24] at H
                              have c24b0 : (t16 == 0) = false := beq_eq_false_iff_ne.mpr c24
                              have c24b1 : (t16 != 0) = true := bne_iff_ne.mpr c24
                              obtain rfl := Option.some.inj H
                              have hcz36_0 : wc.cell? ⟨gb13, 0, none⟩ = some (.int .i64 ((rd_T32 t1 x7_1).f0)) := (blk_cell BK13.out 0).trans rfl
                              have hcz36_1 : wc.cell? ⟨gb13, 1, none⟩ = some (.string ((rd_T32 t1 x7_1).f1)) := (blk_cell BK13.out 1).trans rfl
                              have hcz36_2 : wc.cell? ⟨gb13, 2, none⟩ = some (.int .i64 ((rd_T32 t1 x7_1).f2)) := (blk_cell BK13.out 2).trans rfl
                              have hfz36_0 := blk_frozen BK13.out 0
                              have hfz36_1 := blk_frozen BK13.out 1
                              have hfz36_2 := blk_frozen BK13.out 2
                              go_wp2_with (first | (go_at_call 13; (with_reducible refine (strings_TrimRight.calls (a0.extract (((rd_T32 t1 x7_1).f2) : Int).toNat (x6_1 : Int).toNat) (⟨#[32, 9, 10, 13]⟩ : ByteArray) t14 _ A21.out).mono ?_); rintro e w37 ⟨rfl, hb⟩; have n0_ := Aside0.mk (Kd.R_below (rc HO_3.out) hb); have n1_ := Aside0.mk (blk_below (g := gb13) (o := .cells #[.int .i64 ((rd_T32 t1 x7_1).f0), .string ((rd_T32 t1 x7_1).f1), .int .i64 ((rd_T32 t1 x7_1).f2)] 32 (0, 0)) (bc BK13.out) hb); have n2_ := Aside0.mk (below_step (by repeat (first | (with_reducible first | exact HB.out | apply below_alloc | apply pw_below_drewN | apply below_drew1 | refine below_set ?_ GE13.out) | exact HB.out)) hb); clear HO_3; clear BK13; clear HB; have HO_3 := n0_; have BK13 := n1_; have HB := n2_; clear n0_ n1_ n2_; (try clear hb); (try clear hb2); (try clear hk); (try clear hi); have hcz38_0 : w37.cell? ⟨gb13, 0, none⟩ = some (.int .i64 ((rd_T32 t1 x7_1).f0)) := (blk_cell BK13.out 0).trans rfl; have hcz38_1 : w37.cell? ⟨gb13, 1, none⟩ = some (.string ((rd_T32 t1 x7_1).f1)) := (blk_cell BK13.out 1).trans rfl; have hcz38_2 : w37.cell? ⟨gb13, 2, none⟩ = some (.int .i64 ((rd_T32 t1 x7_1).f2)) := (blk_cell BK13.out 2).trans rfl; have hfz38_0 := blk_frozen BK13.out 0; have hfz38_1 := blk_frozen BK13.out 1; have hfz38_2 := blk_frozen BK13.out 2) | (go_at_call 14; (with_reducible refine (quote_Unquote.calls t14 t15 t16 _ ?side1 A23.out).mono ?_); (case side1 => exact G.at hG.out (by repeat (first | (with_reducible first | exact HB.out | apply below_alloc | apply pw_below_drewN | apply below_drew1 | refine below_set ?_ GE13.out) | exact HB.out))); rintro e w39 ⟨rfl, hb⟩; have n0_ := Aside0.mk (Kd.R_below (rc HO_3.out) hb); have n1_ := Aside0.mk (blk_below (g := gb13) (o := .cells #[.int .i64 ((rd_T32 t1 x7_1).f0), .string ((rd_T32 t1 x7_1).f1), .int .i64 ((rd_T32 t1 x7_1).f2)] 32 (0, 0)) (bc BK13.out) hb); have n2_ := Aside0.mk (below_step (by repeat (first | (with_reducible first | exact HB.out | apply below_alloc | apply pw_below_drewN | apply below_drew1 | refine below_set ?_ GE13.out) | exact HB.out)) hb); clear HO_3; clear BK13; clear HB; have HO_3 := n0_; have BK13 := n1_; have HB := n2_; clear n0_ n1_ n2_; (try clear hb); (try clear hb2); (try clear hk); (try clear hi)))
                              go_ret
                              exact ⟨by first | rfl | (simp [errW_none, errW_some] <;> rfl) | (simp [*, errW_none, errW_some] <;> rfl), by repeat (first | (with_reducible first | exact HB.out | apply below_alloc | apply pw_below_drewN | apply below_drew1 | refine below_set ?_ GE13.out) | exact HB.out)⟩
                          · rw [if_neg c22] at H
                            have c22b0 : (((rd_T32 t1 x7_1).f0) == 2) = false := beq_eq_false_iff_ne.mpr c22
                            have c22b1 : (((rd_T32 t1 x7_1).f0) != 2) = true := bne_iff_ne.mpr c22
                            by_cases c40 : ((rd_T32 t1 x7_1).f0) = 3
                            · rw [if_pos c40] at H
                              have c40b0 : (((rd_T32 t1 x7_1).f0) == 3) = true := beq_iff_eq.mpr c40
                              have c40b1 : (((rd_T32 t1 x7_1).f0) != 3) = false := bne_eq_false_iff_eq.mpr c40
                              clear c40
                              replace H := Option.bind_eq_some_iff.mp H
                              obtain ⟨⟨t17, t18, t21, t24⟩, A410, H⟩ := H
                              replace H : (if t24 = 4 then (some false) else (if t14.toList = ((rd_T32 t1 x7_1).f1).toList then (driftnetlaw20_LexAll.l0 kj8 a0 t1 ((rd_T32 t1 x7_1).f2) (wrap64 (x7_1 - 1))) else (some false))) = some r := H
                              have A41 := Aside0.mk A410
                              clear A410
                              by_cases c42 : t24 = 4
                              · rw [if_pos c42] at H
                                have c42b0 : (t24 == 4) = true := beq_iff_eq.mpr c42
                                have c42b1 : (t24 != 4) = false := bne_eq_false_iff_eq.mpr c42
                                clear c42
                                obtain rfl := Option.some.inj H
                                have hcz43_0 : wc.cell? ⟨gb13, 0, none⟩ = some (.int .i64 ((rd_T32 t1 x7_1).f0)) := (blk_cell BK13.out 0).trans rfl
                                have hcz43_1 : wc.cell? ⟨gb13, 1, none⟩ = some (.string ((rd_T32 t1 x7_1).f1)) := (blk_cell BK13.out 1).trans rfl
                                have hcz43_2 : wc.cell? ⟨gb13, 2, none⟩ = some (.int .i64 ((rd_T32 t1 x7_1).f2)) := (blk_cell BK13.out 2).trans rfl
                                have hfz43_0 := blk_frozen BK13.out 0
                                have hfz43_1 := blk_frozen BK13.out 1
                                have hfz43_2 := blk_frozen BK13.out 2
                                go_wp2_with (first | (go_at_call 13; (with_reducible refine (strings_TrimRight.calls (a0.extract (((rd_T32 t1 x7_1).f2) : Int).toNat (x6_1 : Int).toNat) (⟨#[32, 9, 10, 13]⟩ : ByteArray) t14 _ A21.out).mono ?_); rintro e w44 ⟨rfl, hb⟩; have n0_ := Aside0.mk (Kd.R_below (rc HO_3.out) hb); have n1_ := Aside0.mk (blk_below (g := gb13) (o := .cells #[.int .i64 ((rd_T32 t1 x7_1).f0), .string ((rd_T32 t1 x7_1).f1), .int .i64 ((rd_T32 t1 x7_1).f2)] 32 (0, 0)) (bc BK13.out) hb); have n2_ := Aside0.mk (below_step (by repeat (first | (with_reducible first | exact HB.out | apply below_alloc | apply pw_below_drewN | apply below_drew1 | refine below_set ?_ GE13.out) | exact HB.out)) hb); clear HO_3; clear BK13; clear HB; have HO_3 := n0_; have BK13 := n1_; have HB := n2_; clear n0_ n1_ n2_; (try clear hb); (try clear hb2); (try clear hk); (try clear hi); have hcz45_0 : w44.cell? ⟨gb13, 0, none⟩ = some (.int .i64 ((rd_T32 t1 x7_1).f0)) := (blk_cell BK13.out 0).trans rfl; have hcz45_1 : w44.cell? ⟨gb13, 1, none⟩ = some (.string ((rd_T32 t1 x7_1).f1)) := (blk_cell BK13.out 1).trans rfl; have hcz45_2 : w44.cell? ⟨gb13, 2, none⟩ = some (.int .i64 ((rd_T32 t1 x7_1).f2)) := (blk_cell BK13.out 2).trans rfl; have hfz45_0 := blk_frozen BK13.out 0; have hfz45_1 := blk_frozen BK13.out 1; have hfz45_2 := blk_frozen BK13.out 2) | (go_at_call 15; (with_reducible refine (measure_Number.calls t14 t17 t18 t21 t24 _ ?side1 A41.out).mono ?_); (case side1 => exact G.at hG.out (by repeat (first | (with_reducible first | exact HB.out | apply below_alloc | apply pw_below_drewN | apply below_drew1 | refine below_set ?_ GE13.out) | exact HB.out))); rintro e w46 ⟨v19, v22, rfl, ho0, ho1, hb⟩; have n0_ := Aside0.mk (Kd.R_below (rc HO_3.out) hb); have n1_ := Aside0.mk (Kd.R_lower ho0 (below_size (by repeat (first | (with_reducible first | exact HB.out | apply below_alloc | apply pw_below_drewN | apply below_drew1 | refine below_set ?_ GE13.out) | exact HB.out)))); have n2_ := Aside0.mk (Kd.R_lower ho1 (below_size (by repeat (first | (with_reducible first | exact HB.out | apply below_alloc | apply pw_below_drewN | apply below_drew1 | refine below_set ?_ GE13.out) | exact HB.out)))); have n3_ := Aside0.mk (blk_below (g := gb13) (o := .cells #[.int .i64 ((rd_T32 t1 x7_1).f0), .string ((rd_T32 t1 x7_1).f1), .int .i64 ((rd_T32 t1 x7_1).f2)] 32 (0, 0)) (bc BK13.out) hb); have n4_ := Aside0.mk (below_step (by repeat (first | (with_reducible first | exact HB.out | apply below_alloc | apply pw_below_drewN | apply below_drew1 | refine below_set ?_ GE13.out) | exact HB.out)) hb); clear HO_3; clear BK13; clear HB; have HO_3 := n0_; have HO20 := n1_; have HO23 := n2_; have BK13 := n3_; have HB := n4_; clear n0_ n1_ n2_ n3_ n4_; (try clear hb); (try clear hb2); (try clear hk); (try clear hi); (try clear ho0); (try clear ho1)) | ((with_reducible refine gate_dst (N := 12) rfl ?_); (try (refine gate_guard (by rfl) ?_; dsimp only)); refine box_event ?hg (N := 12) ?hd (cs := #[.bool false, .slice none 0 0, .slice none 0 0]) (t := 41) ?hr ?_; (case hd => rfl); (case hg => rfl); (case hr => first | (go_simp; done) | (go_simp; rfl)); intro gb25 hg w47 hbox hb; have n0_ := Aside0.mk (Kd.R_below (rc HO_3.out) hb); have n1_ := Aside0.mk (Kd.R_below (rc HO20.out) hb); have n2_ := Aside0.mk (Kd.R_below (rc HO23.out) hb); have n3_ := Aside0.mk (blk_below (g := gb13) (o := .cells #[.int .i64 ((rd_T32 t1 x7_1).f0), .string ((rd_T32 t1 x7_1).f1), .int .i64 ((rd_T32 t1 x7_1).f2)] 32 (0, 0)) (bc BK13.out) hb); have n4_ := Aside0.mk (below_step (by repeat (first | (with_reducible first | exact HB.out | apply below_alloc | apply pw_below_drewN | apply below_drew1 | refine below_set ?_ GE13.out) | exact HB.out)) hb); have n5_ := Aside0.mk (hbox); have n6_ := Aside0.mk ((by rw [hg]; exact (below_size (by repeat (first | (with_reducible first | exact HB.out | apply below_alloc | apply pw_below_drewN | apply below_drew1 | refine below_set ?_ GE13.out) | exact HB.out))) : w.heap.size ≤ gb25)); have n7_ := Aside0.mk ((by rw [hg]; exact (below_size (by repeat (first | (with_reducible first | exact HB.out | apply below_alloc | apply pw_below_drewN | apply below_drew1 | refine below_set ?_ GE13.out) | exact HB.out))) : w.heap.size ≤ gb25)); have n8_ := Aside0.mk ((by rw [hg]; exact Nat.ne_of_lt (blk_lt (g := gb13) (o := .cells #[.int .i64 ((rd_T32 t1 x7_1).f0), .string ((rd_T32 t1 x7_1).f1), .int .i64 ((rd_T32 t1 x7_1).f2)] 32 (0, 0)) (bc BK13.out)) : gb13 ≠ gb25)); have n9_ := Aside0.mk ((by rw [hg]; exact Nat.ne_of_gt (blk_lt (g := gb13) (o := .cells #[.int .i64 ((rd_T32 t1 x7_1).f0), .string ((rd_T32 t1 x7_1).f1), .int .i64 ((rd_T32 t1 x7_1).f2)] 32 (0, 0)) (bc BK13.out)) : gb25 ≠ gb13)); clear HO_3; clear HO20; clear HO23; clear BK13; clear HB; have HO_3 := n0_; have HO20 := n1_; have HO23 := n2_; have BK13 := n3_; have HB := n4_; have BK25 := n5_; have GW25 := n6_; have GE25 := n7_; have NB13_25 := n8_; have NB25_13 := n9_; clear n0_ n1_ n2_ n3_ n4_ n5_ n6_ n7_ n8_ n9_; clear hb hbox hg; have hnb48 := NB25_13.out; have hnc48 := NB13_25.out; have hcz49_0 : w47.cell? ⟨gb25, 0, none⟩ = some (.bool false) := (blk_cell BK25.out 0).trans rfl; have hcz49_1 : w47.cell? ⟨gb25, 1, none⟩ = some (.slice none 0 0) := (blk_cell BK25.out 1).trans rfl; have hcz49_2 : w47.cell? ⟨gb25, 2, none⟩ = some (.slice none 0 0) := (blk_cell BK25.out 2).trans rfl; have hfz49_0 := blk_frozen BK25.out 0; have hfz49_1 := blk_frozen BK25.out 1; have hfz49_2 := blk_frozen BK25.out 2; obtain ⟨Ao50, co50, eo50⟩ := Kd.R_slice HO20.out; subst eo50; obtain ⟨Ao51, co51, eo51⟩ := Kd.R_slice HO23.out; subst eo51))
                                go_ret
                                exact ⟨by first | rfl | (simp [errW_none, errW_some] <;> rfl) | (simp [*, errW_none, errW_some] <;> rfl), by repeat (first | (with_reducible first | exact HB.out | apply below_alloc | apply pw_below_drewN | apply below_drew1 | refine below_set ?_ GE13.out | refine below_set ?_ GE25.out) | exact HB.out)⟩
                              · rw [if_neg c42] at H
                                have c42b0 : (t24 == 4) = false := beq_eq_false_iff_ne.mpr c42
                                have c42b1 : (t24 != 4) = true := bne_iff_ne.mpr c42
                                by_cases c52 : t14.toList = ((rd_T32 t1 x7_1).f1).toList
                                · rw [if_pos c52] at H
                                  have c52b0 : (t14.toList == ((rd_T32 t1 x7_1).f1).toList) = true := beq_iff_eq.mpr c52
                                  have c52b1 : (t14.toList != ((rd_T32 t1 x7_1).f1).toList) = false := bne_eq_false_iff_eq.mpr c52
                                  clear c52
                                  have H' := Aside0.mk H
                                  clear H
                                  have hcz53_0 : wc.cell? ⟨gb13, 0, none⟩ = some (.int .i64 ((rd_T32 t1 x7_1).f0)) := (blk_cell BK13.out 0).trans rfl
                                  have hcz53_1 : wc.cell? ⟨gb13, 1, none⟩ = some (.string ((rd_T32 t1 x7_1).f1)) := (blk_cell BK13.out 1).trans rfl
                                  have hcz53_2 : wc.cell? ⟨gb13, 2, none⟩ = some (.int .i64 ((rd_T32 t1 x7_1).f2)) := (blk_cell BK13.out 2).trans rfl
                                  have hfz53_0 := blk_frozen BK13.out 0
                                  have hfz53_1 := blk_frozen BK13.out 1
                                  have hfz53_2 := blk_frozen BK13.out 2
                                  go_wp2_with (first | (go_at_call 13; (with_reducible refine (strings_TrimRight.calls (a0.extract (((rd_T32 t1 x7_1).f2) : Int).toNat (x6_1 : Int).toNat) (⟨#[32, 9, 10, 13]⟩ : ByteArray) t14 _ A21.out).mono ?_); rintro e w54 ⟨rfl, hb⟩; have n0_ := Aside0.mk (Kd.R_below (rc HO_3.out) hb); have n1_ := Aside0.mk (blk_below (g := gb13) (o := .cells #[.int .i64 ((rd_T32 t1 x7_1).f0), .string ((rd_T32 t1 x7_1).f1), .int .i64 ((rd_T32 t1 x7_1).f2)] 32 (0, 0)) (bc BK13.out) hb); have n2_ := Aside0.mk (below_step (by repeat (first | (with_reducible first | exact HB.out | apply below_alloc | apply pw_below_drewN | apply below_drew1 | refine below_set ?_ GE13.out) | exact HB.out)) hb); clear HO_3; clear BK13; clear HB; have HO_3 := n0_; have BK13 := n1_; have HB := n2_; clear n0_ n1_ n2_; (try clear hb); (try clear hb2); (try clear hk); (try clear hi); have hcz55_0 : w54.cell? ⟨gb13, 0, none⟩ = some (.int .i64 ((rd_T32 t1 x7_1).f0)) := (blk_cell BK13.out 0).trans rfl; have hcz55_1 : w54.cell? ⟨gb13, 1, none⟩ = some (.string ((rd_T32 t1 x7_1).f1)) := (blk_cell BK13.out 1).trans rfl; have hcz55_2 : w54.cell? ⟨gb13, 2, none⟩ = some (.int .i64 ((rd_T32 t1 x7_1).f2)) := (blk_cell BK13.out 2).trans rfl; have hfz55_0 := blk_frozen BK13.out 0; have hfz55_1 := blk_frozen BK13.out 1; have hfz55_2 := blk_frozen BK13.out 2) | (go_at_call 15; (with_reducible refine (measure_Number.calls t14 t17 t18 t21 t24 _ ?side1 A41.out).mono ?_); (case side1 => exact G.at hG.out (by repeat (first | (with_reducible first | exact HB.out | apply below_alloc | apply pw_below_drewN | apply below_drew1 | refine below_set ?_ GE13.out) | exact HB.out))); rintro e w56 ⟨v19, v22, rfl, ho0, ho1, hb⟩; have n0_ := Aside0.mk (Kd.R_below (rc HO_3.out) hb); have n1_ := Aside0.mk (Kd.R_lower ho0 (below_size (by repeat (first | (with_reducible first | exact HB.out | apply below_alloc | apply pw_below_drewN | apply below_drew1 | refine below_set ?_ GE13.out) | exact HB.out)))); have n2_ := Aside0.mk (Kd.R_lower ho1 (below_size (by repeat (first | (with_reducible first | exact HB.out | apply below_alloc | apply pw_below_drewN | apply below_drew1 | refine below_set ?_ GE13.out) | exact HB.out)))); have n3_ := Aside0.mk (blk_below (g := gb13) (o := .cells #[.int .i64 ((rd_T32 t1 x7_1).f0), .string ((rd_T32 t1 x7_1).f1), .int .i64 ((rd_T32 t1 x7_1).f2)] 32 (0, 0)) (bc BK13.out) hb); have n4_ := Aside0.mk (below_step (by repeat (first | (with_reducible first | exact HB.out | apply below_alloc | apply pw_below_drewN | apply below_drew1 | refine below_set ?_ GE13.out) | exact HB.out)) hb); clear HO_3; clear BK13; clear HB; have HO_3 := n0_; have HO20 := n1_; have HO23 := n2_; have BK13 := n3_; have HB := n4_; clear n0_ n1_ n2_ n3_ n4_; (try clear hb); (try clear hb2); (try clear hk); (try clear hi); (try clear ho0); (try clear ho1)) | ((with_reducible refine gate_dst (N := 12) rfl ?_); (try (refine gate_guard (by rfl) ?_; dsimp only)); refine box_event ?hg (N := 12) ?hd (cs := #[.bool false, .slice none 0 0, .slice none 0 0]) (t := 41) ?hr ?_; (case hd => rfl); (case hg => rfl); (case hr => first | (go_simp; done) | (go_simp; rfl)); intro gb25 hg w57 hbox hb; have n0_ := Aside0.mk (Kd.R_below (rc HO_3.out) hb); have n1_ := Aside0.mk (Kd.R_below (rc HO20.out) hb); have n2_ := Aside0.mk (Kd.R_below (rc HO23.out) hb); have n3_ := Aside0.mk (blk_below (g := gb13) (o := .cells #[.int .i64 ((rd_T32 t1 x7_1).f0), .string ((rd_T32 t1 x7_1).f1), .int .i64 ((rd_T32 t1 x7_1).f2)] 32 (0, 0)) (bc BK13.out) hb); have n4_ := Aside0.mk (below_step (by repeat (first | (with_reducible first | exact HB.out | apply below_alloc | apply pw_below_drewN | apply below_drew1 | refine below_set ?_ GE13.out) | exact HB.out)) hb); have n5_ := Aside0.mk (hbox); have n6_ := Aside0.mk ((by rw [hg]; exact (below_size (by repeat (first | (with_reducible first | exact HB.out | apply below_alloc | apply pw_below_drewN | apply below_drew1 | refine below_set ?_ GE13.out) | exact HB.out))) : w.heap.size ≤ gb25)); have n7_ := Aside0.mk ((by rw [hg]; exact (below_size (by repeat (first | (with_reducible first | exact HB.out | apply below_alloc | apply pw_below_drewN | apply below_drew1 | refine below_set ?_ GE13.out) | exact HB.out))) : w.heap.size ≤ gb25)); have n8_ := Aside0.mk ((by rw [hg]; exact Nat.ne_of_lt (blk_lt (g := gb13) (o := .cells #[.int .i64 ((rd_T32 t1 x7_1).f0), .string ((rd_T32 t1 x7_1).f1), .int .i64 ((rd_T32 t1 x7_1).f2)] 32 (0, 0)) (bc BK13.out)) : gb13 ≠ gb25)); have n9_ := Aside0.mk ((by rw [hg]; exact Nat.ne_of_gt (blk_lt (g := gb13) (o := .cells #[.int .i64 ((rd_T32 t1 x7_1).f0), .string ((rd_T32 t1 x7_1).f1), .int .i64 ((rd_T32 t1 x7_1).f2)] 32 (0, 0)) (bc BK13.out)) : gb25 ≠ gb13)); clear HO_3; clear HO20; clear HO23; clear BK13; clear HB; have HO_3 := n0_; have HO20 := n1_; have HO23 := n2_; have BK13 := n3_; have HB := n4_; have BK25 := n5_; have GW25 := n6_; have GE25 := n7_; have NB13_25 := n8_; have NB25_13 := n9_; clear n0_ n1_ n2_ n3_ n4_ n5_ n6_ n7_ n8_ n9_; clear hb hbox hg; have hnb58 := NB25_13.out; have hnc58 := NB13_25.out; have hcz59_0 : w57.cell? ⟨gb25, 0, none⟩ = some (.bool false) := (blk_cell BK25.out 0).trans rfl; have hcz59_1 : w57.cell? ⟨gb25, 1, none⟩ = some (.slice none 0 0) := (blk_cell BK25.out 1).trans rfl; have hcz59_2 : w57.cell? ⟨gb25, 2, none⟩ = some (.slice none 0 0) := (blk_cell BK25.out 2).trans rfl; have hfz59_0 := blk_frozen BK25.out 0; have hfz59_1 := blk_frozen BK25.out 1; have hfz59_2 := blk_frozen BK25.out 2; obtain ⟨Ao60, co60, eo60⟩ := Kd.R_slice HO20.out; subst eo60; obtain ⟨Ao61, co61, eo61⟩ := Kd.R_slice HO23.out; subst eo61; have hcz62_0 : w57.cell? ⟨gb13, 0, none⟩ = some (.int .i64 ((rd_T32 t1 x7_1).f0)) := (blk_cell BK13.out 0).trans rfl; have hcz62_1 : w57.cell? ⟨gb13, 1, none⟩ = some (.string ((rd_T32 t1 x7_1).f1)) := (blk_cell BK13.out 1).trans rfl; have hcz62_2 : w57.cell? ⟨gb13, 2, none⟩ = some (.int .i64 ((rd_T32 t1 x7_1).f2)) := (blk_cell BK13.out 2).trans rfl; have hfz62_0 := blk_frozen BK13.out 0; have hfz62_1 := blk_frozen BK13.out 1; have hfz62_2 := blk_frozen BK13.out 2))
                                  go_roundg kj8
                                  case measure => have := HK1.out; have := HJ8.out; omega
                                  case rel => exact ⟨(((rd_T32 t1 x7_1).f2)), (wrap64 (x7_1 - 1)), (by first | rfl | (simp; done) | (simp [*]; done)), (by first | rfl | (simp; done) | (simp [*]; done)), H', ⟨by have := HK1.out; have := HJ8.out; omega⟩, ⟨by (with_reducible repeat (first | apply Kd.R_alloc | apply Kd.R_drewN | apply Kd.R_drew)); exact Kd.R_mono (Kd.R_far (p := ⟨gb25, 2, none⟩) (Kd.R_far (p := ⟨gb25, 1, none⟩) (Kd.R_far (p := ⟨gb25, 0, none⟩) (Kd.R_types HO_3.out BK25.out (by decide)) (fun _ hk => hk.2) (.bool t17)) (fun _ hk => hk.2) (.slice Ao60 t18.length co60)) (fun _ hk => hk.2) (.slice Ao61 t21.length co61)) (fun _ hk => trivial)⟩, ⟨by repeat (first | (with_reducible first | exact HB.out | apply below_alloc | apply pw_below_drewN | apply below_drew1 | refine below_set ?_ GE13.out | refine below_set ?_ GE25.out) | exact HB.out)⟩⟩
                                · rw [if_neg c52] at H
                                  have c52b0 : (t14.toList == ((rd_T32 t1 x7_1).f1).toList) = false := beq_eq_false_iff_ne.mpr c52
                                  have c52b1 : (t14.toList != ((rd_T32 t1 x7_1).f1).toList) = true := bne_iff_ne.mpr c52
                                  obtain rfl := Option.some.inj H
                                  have hcz63_0 : wc.cell? ⟨gb13, 0, none⟩ = some (.int .i64 ((rd_T32 t1 x7_1).f0)) := (blk_cell BK13.out 0).trans rfl
                                  have hcz63_1 : wc.cell? ⟨gb13, 1, none⟩ = some (.string ((rd_T32 t1 x7_1).f1)) := (blk_cell BK13.out 1).trans rfl
                                  have hcz63_2 : wc.cell? ⟨gb13, 2, none⟩ = some (.int .i64 ((rd_T32 t1 x7_1).f2)) := (blk_cell BK13.out 2).trans rfl
                                  have hfz63_0 := blk_frozen BK13.out 0
                                  have hfz63_1 := blk_frozen BK13.out 1
                                  have hfz63_2 := blk_frozen BK13.out 2
                                  go_wp2_with (first | (go_at_call 13; (with_reducible refine (strings_TrimRight.calls (a0.extract (((rd_T32 t1 x7_1).f2) : Int).toNat (x6_1 : Int).toNat) (⟨#[32, 9, 10, 13]⟩ : ByteArray) t14 _ A21.out).mono ?_); rintro e w64 ⟨rfl, hb⟩; have n0_ := Aside0.mk (Kd.R_below (rc HO_3.out) hb); have n1_ := Aside0.mk (blk_below (g := gb13) (o := .cells #[.int .i64 ((rd_T32 t1 x7_1).f0), .string ((rd_T32 t1 x7_1).f1), .int .i64 ((rd_T32 t1 x7_1).f2)] 32 (0, 0)) (bc BK13.out) hb); have n2_ := Aside0.mk (below_step (by repeat (first | (with_reducible first | exact HB.out | apply below_alloc | apply pw_below_drewN | apply below_drew1 | refine below_set ?_ GE13.out) | exact HB.out)) hb); clear HO_3; clear BK13; clear HB; have HO_3 := n0_; have BK13 := n1_; have HB := n2_; clear n0_ n1_ n2_; (try clear hb); (try clear hb2); (try clear hk); (try clear hi); have hcz65_0 : w64.cell? ⟨gb13, 0, none⟩ = some (.int .i64 ((rd_T32 t1 x7_1).f0)) := (blk_cell BK13.out 0).trans rfl; have hcz65_1 : w64.cell? ⟨gb13, 1, none⟩ = some (.string ((rd_T32 t1 x7_1).f1)) := (blk_cell BK13.out 1).trans rfl; have hcz65_2 : w64.cell? ⟨gb13, 2, none⟩ = some (.int .i64 ((rd_T32 t1 x7_1).f2)) := (blk_cell BK13.out 2).trans rfl; have hfz65_0 := blk_frozen BK13.out 0; have hfz65_1 := blk_frozen BK13.out 1; have hfz65_2 := blk_frozen BK13.out 2) | (go_at_call 15; (with_reducible refine (measure_Number.calls t14 t17 t18 t21 t24 _ ?side1 A41.out).mono ?_); (case side1 => exact G.at hG.out (by repeat (first | (with_reducible first | exact HB.out | apply below_alloc | apply pw_below_drewN | apply below_drew1 | refine below_set ?_ GE13.out) | exact HB.out))); rintro e w66 ⟨v19, v22, rfl, ho0, ho1, hb⟩; have n0_ := Aside0.mk (Kd.R_below (rc HO_3.out) hb); have n1_ := Aside0.mk (Kd.R_lower ho0 (below_size (by repeat (first | (with_reducible first | exact HB.out | apply below_alloc | apply pw_below_drewN | apply below_drew1 | refine below_set ?_ GE13.out) | exact HB.out)))); have n2_ := Aside0.mk (Kd.R_lower ho1 (below_size (by repeat (first | (with_reducible first | exact HB.out | apply below_alloc | apply pw_below_drewN | apply below_drew1 | refine below_set ?_ GE13.out) | exact HB.out)))); have n3_ := Aside0.mk (blk_below (g := gb13) (o := .cells #[.int .i64 ((rd_T32 t1 x7_1).f0), .string ((rd_T32 t1 x7_1).f1), .int .i64 ((rd_T32 t1 x7_1).f2)] 32 (0, 0)) (bc BK13.out) hb); have n4_ := Aside0.mk (below_step (by repeat (first | (with_reducible first | exact HB.out | apply below_alloc | apply pw_below_drewN | apply below_drew1 | refine below_set ?_ GE13.out) | exact HB.out)) hb); clear HO_3; clear BK13; clear HB; have HO_3 := n0_; have HO20 := n1_; have HO23 := n2_; have BK13 := n3_; have HB := n4_; clear n0_ n1_ n2_ n3_ n4_; (try clear hb); (try clear hb2); (try clear hk); (try clear hi); (try clear ho0); (try clear ho1)) | ((with_reducible refine gate_dst (N := 12) rfl ?_); (try (refine gate_guard (by rfl) ?_; dsimp only)); refine box_event ?hg (N := 12) ?hd (cs := #[.bool false, .slice none 0 0, .slice none 0 0]) (t := 41) ?hr ?_; (case hd => rfl); (case hg => rfl); (case hr => first | (go_simp; done) | (go_simp; rfl)); intro gb25 hg w67 hbox hb; have n0_ := Aside0.mk (Kd.R_below (rc HO_3.out) hb); have n1_ := Aside0.mk (Kd.R_below (rc HO20.out) hb); have n2_ := Aside0.mk (Kd.R_below (rc HO23.out) hb); have n3_ := Aside0.mk (blk_below (g := gb13) (o := .cells #[.int .i64 ((rd_T32 t1 x7_1).f0), .string ((rd_T32 t1 x7_1).f1), .int .i64 ((rd_T32 t1 x7_1).f2)] 32 (0, 0)) (bc BK13.out) hb); have n4_ := Aside0.mk (below_step (by repeat (first | (with_reducible first | exact HB.out | apply below_alloc | apply pw_below_drewN | apply below_drew1 | refine below_set ?_ GE13.out) | exact HB.out)) hb); have n5_ := Aside0.mk (hbox); have n6_ := Aside0.mk ((by rw [hg]; exact (below_size (by repeat (first | (with_reducible first | exact HB.out | apply below_alloc | apply pw_below_drewN | apply below_drew1 | refine below_set ?_ GE13.out) | exact HB.out))) : w.heap.size ≤ gb25)); have n7_ := Aside0.mk ((by rw [hg]; exact (below_size (by repeat (first | (with_reducible first | exact HB.out | apply below_alloc | apply pw_below_drewN | apply below_drew1 | refine below_set ?_ GE13.out) | exact HB.out))) : w.heap.size ≤ gb25)); have n8_ := Aside0.mk ((by rw [hg]; exact Nat.ne_of_lt (blk_lt (g := gb13) (o := .cells #[.int .i64 ((rd_T32 t1 x7_1).f0), .string ((rd_T32 t1 x7_1).f1), .int .i64 ((rd_T32 t1 x7_1).f2)] 32 (0, 0)) (bc BK13.out)) : gb13 ≠ gb25)); have n9_ := Aside0.mk ((by rw [hg]; exact Nat.ne_of_gt (blk_lt (g := gb13) (o := .cells #[.int .i64 ((rd_T32 t1 x7_1).f0), .string ((rd_T32 t1 x7_1).f1), .int .i64 ((rd_T32 t1 x7_1).f2)] 32 (0, 0)) (bc BK13.out)) : gb25 ≠ gb13)); clear HO_3; clear HO20; clear HO23; clear BK13; clear HB; have HO_3 := n0_; have HO20 := n1_; have HO23 := n2_; have BK13 := n3_; have HB := n4_; have BK25 := n5_; have GW25 := n6_; have GE25 := n7_; have NB13_25 := n8_; have NB25_13 := n9_; clear n0_ n1_ n2_ n3_ n4_ n5_ n6_ n7_ n8_ n9_; clear hb hbox hg; have hnb68 := NB25_13.out; have hnc68 := NB13_25.out; have hcz69_0 : w67.cell? ⟨gb25, 0, none⟩ = some (.bool false) := (blk_cell BK25.out 0).trans rfl; have hcz69_1 : w67.cell? ⟨gb25, 1, none⟩ = some (.slice none 0 0) := (blk_cell BK25.out 1).trans rfl; have hcz69_2 : w67.cell? ⟨gb25, 2, none⟩ = some (.slice none 0 0) := (blk_cell BK25.out 2).trans rfl; have hfz69_0 := blk_frozen BK25.out 0; have hfz69_1 := blk_frozen BK25.out 1; have hfz69_2 := blk_frozen BK25.out 2; obtain ⟨Ao70, co70, eo70⟩ := Kd.R_slice HO20.out; subst eo70; obtain ⟨Ao71, co71, eo71⟩ := Kd.R_slice HO23.out; subst eo71; have hcz72_0 : w67.cell? ⟨gb13, 0, none⟩ = some (.int .i64 ((rd_T32 t1 x7_1).f0)) := (blk_cell BK13.out 0).trans rfl; have hcz72_1 : w67.cell? ⟨gb13, 1, none⟩ = some (.string ((rd_T32 t1 x7_1).f1)) := (blk_cell BK13.out 1).trans rfl; have hcz72_2 : w67.cell? ⟨gb13, 2, none⟩ = some (.int .i64 ((rd_T32 t1 x7_1).f2)) := (blk_cell BK13.out 2).trans rfl; have hfz72_0 := blk_frozen BK13.out 0; have hfz72_1 := blk_frozen BK13.out 1; have hfz72_2 := blk_frozen BK13.out 2))
                                  go_ret
                                  exact ⟨by first | rfl | (simp [errW_none, errW_some] <;> rfl) | (simp [*, errW_none, errW_some] <;> rfl), by repeat (first | (with_reducible first | exact HB.out | apply below_alloc | apply pw_below_drewN | apply below_drew1 | refine below_set ?_ GE13.out | refine below_set ?_ GE25.out) | exact HB.out)⟩
                            · rw [if_neg c40] at H
                              have c40b0 : (((rd_T32 t1 x7_1).f0) == 3) = false := beq_eq_false_iff_ne.mpr c40
                              have c40b1 : (((rd_T32 t1 x7_1).f0) != 3) = true := bne_iff_ne.mpr c40
                              by_cases c73 : t14.toList = ((rd_T32 t1 x7_1).f1).toList
                              · rw [if_pos c73] at H
                                have c73b0 : (t14.toList == ((rd_T32 t1 x7_1).f1).toList) = true := beq_iff_eq.mpr c73
                                have c73b1 : (t14.toList != ((rd_T32 t1 x7_1).f1).toList) = false := bne_eq_false_iff_eq.mpr c73
                                clear c73
                                by_cases c74 : t14.toList = ([] : List UInt8)
                                · rw [if_pos c74] at H
                                  have c74b0 : (t14.toList == ([] : List UInt8)) = true := beq_iff_eq.mpr c74
                                  have c74b1 : (t14.toList != ([] : List UInt8)) = false := bne_eq_false_iff_eq.mpr c74
                                  clear c74
                                  obtain rfl := Option.some.inj H
                                  have hcz75_0 : wc.cell? ⟨gb13, 0, none⟩ = some (.int .i64 ((rd_T32 t1 x7_1).f0)) := (blk_cell BK13.out 0).trans rfl
                                  have hcz75_1 : wc.cell? ⟨gb13, 1, none⟩ = some (.string ((rd_T32 t1 x7_1).f1)) := (blk_cell BK13.out 1).trans rfl
                                  have hcz75_2 : wc.cell? ⟨gb13, 2, none⟩ = some (.int .i64 ((rd_T32 t1 x7_1).f2)) := (blk_cell BK13.out 2).trans rfl
                                  have hfz75_0 := blk_frozen BK13.out 0
                                  have hfz75_1 := blk_frozen BK13.out 1
                                  have hfz75_2 := blk_frozen BK13.out 2
                                  go_wp2_with (first | (go_at_call 13; (with_reducible refine (strings_TrimRight.calls (a0.extract (((rd_T32 t1 x7_1).f2) : Int).toNat (x6_1 : Int).toNat) (⟨#[32, 9, 10, 13]⟩ : ByteArray) t14 _ A21.out).mono ?_); rintro e w76 ⟨rfl, hb⟩; have n0_ := Aside0.mk (Kd.R_below (rc HO_3.out) hb); have n1_ := Aside0.mk (blk_below (g := gb13) (o := .cells #[.int .i64 ((rd_T32 t1 x7_1).f0), .string ((rd_T32 t1 x7_1).f1), .int .i64 ((rd_T32 t1 x7_1).f2)] 32 (0, 0)) (bc BK13.out) hb); have n2_ := Aside0.mk (below_step (by repeat (first | (with_reducible first | exact HB.out | apply below_alloc | apply pw_below_drewN | apply below_drew1 | refine below_set ?_ GE13.out) | exact HB.out)) hb); clear HO_3; clear BK13; clear HB; have HO_3 := n0_; have BK13 := n1_; have HB := n2_; clear n0_ n1_ n2_; (try clear hb); (try clear hb2); (try clear hk); (try clear hi); have hcz77_0 : w76.cell? ⟨gb13, 0, none⟩ = some (.int .i64 ((rd_T32 t1 x7_1).f0)) := (blk_cell BK13.out 0).trans rfl; have hcz77_1 : w76.cell? ⟨gb13, 1, none⟩ = some (.string ((rd_T32 t1 x7_1).f1)) := (blk_cell BK13.out 1).trans rfl; have hcz77_2 : w76.cell? ⟨gb13, 2, none⟩ = some (.int .i64 ((rd_T32 t1 x7_1).f2)) := (blk_cell BK13.out 2).trans rfl; have hfz77_0 := blk_frozen BK13.out 0; have hfz77_1 := blk_frozen BK13.out 1; have hfz77_2 := blk_frozen BK13.out 2))
                                  go_ret
                                  exact ⟨by first | rfl | (simp [errW_none, errW_some] <;> rfl) | (simp [*, errW_none, errW_some] <;> rfl), by repeat (first | (with_reducible first | exact HB.out | apply below_alloc | apply pw_below_drewN | apply below_drew1 | refine below_set ?_ GE13.out) | exact HB.out)⟩
                                · rw [if_neg c74] at H
                                  have c74b0 : (t14.toList == ([] : List UInt8)) = false := beq_eq_false_iff_ne.mpr c74
                                  have c74b1 : (t14.toList != ([] : List UInt8)) = true := bne_iff_ne.mpr c74
                                  have H' := Aside0.mk H
                                  clear H
                                  have hcz78_0 : wc.cell? ⟨gb13, 0, none⟩ = some (.int .i64 ((rd_T32 t1 x7_1).f0)) := (blk_cell BK13.out 0).trans rfl
                                  have hcz78_1 : wc.cell? ⟨gb13, 1, none⟩ = some (.string ((rd_T32 t1 x7_1).f1)) := (blk_cell BK13.out 1).trans rfl
                                  have hcz78_2 : wc.cell? ⟨gb13, 2, none⟩ = some (.int .i64 ((rd_T32 t1 x7_1).f2)) := (blk_cell BK13.out 2).trans rfl
                                  have hfz78_0 := blk_frozen BK13.out 0
                                  have hfz78_1 := blk_frozen BK13.out 1
                                  have hfz78_2 := blk_frozen BK13.out 2
                                  go_wp2_with (first | (go_at_call 13; (with_reducible refine (strings_TrimRight.calls (a0.extract (((rd_T32 t1 x7_1).f2) : Int).toNat (x6_1 : Int).toNat) (⟨#[32, 9, 10, 13]⟩ : ByteArray) t14 _ A21.out).mono ?_); rintro e w79 ⟨rfl, hb⟩; have n0_ := Aside0.mk (Kd.R_below (rc HO_3.out) hb); have n1_ := Aside0.mk (blk_below (g := gb13) (o := .cells #[.int .i64 ((rd_T32 t1 x7_1).f0), .string ((rd_T32 t1 x7_1).f1), .int .i64 ((rd_T32 t1 x7_1).f2)] 32 (0, 0)) (bc BK13.out) hb); have n2_ := Aside0.mk (below_step (by repeat (first | (with_reducible first | exact HB.out | apply below_alloc | apply pw_below_drewN | apply below_drew1 | refine below_set ?_ GE13.out) | exact HB.out)) hb); clear HO_3; clear BK13; clear HB; have HO_3 := n0_; have BK13 := n1_; have HB := n2_; clear n0_ n1_ n2_; (try clear hb); (try clear hb2); (try clear hk); (try clear hi); have hcz80_0 : w79.cell? ⟨gb13, 0, none⟩ = some (.int .i64 ((rd_T32 t1 x7_1).f0)) := (blk_cell BK13.out 0).trans rfl; have hcz80_1 : w79.cell? ⟨gb13, 1, none⟩ = some (.string ((rd_T32 t1 x7_1).f1)) := (blk_cell BK13.out 1).trans rfl; have hcz80_2 : w79.cell? ⟨gb13, 2, none⟩ = some (.int .i64 ((rd_T32 t1 x7_1).f2)) := (blk_cell BK13.out 2).trans rfl; have hfz80_0 := blk_frozen BK13.out 0; have hfz80_1 := blk_frozen BK13.out 1; have hfz80_2 := blk_frozen BK13.out 2))
                                  go_roundg kj8
                                  case measure => have := HK1.out; have := HJ8.out; omega
                                  case rel => exact ⟨(((rd_T32 t1 x7_1).f2)), (wrap64 (x7_1 - 1)), (by first | rfl | (simp; done) | (simp [*]; done)), (by first | rfl | (simp; done) | (simp [*]; done)), H', ⟨by have := HK1.out; have := HJ8.out; omega⟩, ⟨by (with_reducible repeat (first | apply Kd.R_alloc | apply Kd.R_drewN | apply Kd.R_drew)); exact Kd.R_mono HO_3.out (fun _ hk => trivial)⟩, ⟨by repeat (first | (with_reducible first | exact HB.out | apply below_alloc | apply pw_below_drewN | apply below_drew1 | refine below_set ?_ GE13.out) | exact HB.out)⟩⟩
                              · rw [if_neg c73] at H
                                have c73b0 : (t14.toList == ((rd_T32 t1 x7_1).f1).toList) = false := beq_eq_false_iff_ne.mpr c73
                                have c73b1 : (t14.toList != ((rd_T32 t1 x7_1).f1).toList) = true := bne_iff_ne.mpr c73
                                obtain rfl := Option.some.inj H
                                have hcz81_0 : wc.cell? ⟨gb13, 0, none⟩ = some (.int .i64 ((rd_T32 t1 x7_1).f0)) := (blk_cell BK13.out 0).trans rfl
                                have hcz81_1 : wc.cell? ⟨gb13, 1, none⟩ = some (.string ((rd_T32 t1 x7_1).f1)) := (blk_cell BK13.out 1).trans rfl
                                have hcz81_2 : wc.cell? ⟨gb13, 2, none⟩ = some (.int .i64 ((rd_T32 t1 x7_1).f2)) := (blk_cell BK13.out 2).trans rfl
                                have hfz81_0 := blk_frozen BK13.out 0
                                have hfz81_1 := blk_frozen BK13.out 1
                                have hfz81_2 := blk_frozen BK13.out 2
                                go_wp2_with (first | (go_at_call 13; (with_reducible refine (strings_TrimRight.calls (a0.extract (((rd_T32 t1 x7_1).f2) : Int).toNat (x6_1 : Int).toNat) (⟨#[32, 9, 10, 13]⟩ : ByteArray) t14 _ A21.out).mono ?_); rintro e w82 ⟨rfl, hb⟩; have n0_ := Aside0.mk (Kd.R_below (rc HO_3.out) hb); have n1_ := Aside0.mk (blk_below (g := gb13) (o := .cells #[.int .i64 ((rd_T32 t1 x7_1).f0), .string ((rd_T32 t1 x7_1).f1), .int .i64 ((rd_T32 t1 x7_1).f2)] 32 (0, 0)) (bc BK13.out) hb); have n2_ := Aside0.mk (below_step (by repeat (first | (with_reducible first | exact HB.out | apply below_alloc | apply pw_below_drewN | apply below_drew1 | refine below_set ?_ GE13.out) | exact HB.out)) hb); clear HO_3; clear BK13; clear HB; have HO_3 := n0_; have BK13 := n1_; have HB := n2_; clear n0_ n1_ n2_; (try clear hb); (try clear hb2); (try clear hk); (try clear hi); have hcz83_0 : w82.cell? ⟨gb13, 0, none⟩ = some (.int .i64 ((rd_T32 t1 x7_1).f0)) := (blk_cell BK13.out 0).trans rfl; have hcz83_1 : w82.cell? ⟨gb13, 1, none⟩ = some (.string ((rd_T32 t1 x7_1).f1)) := (blk_cell BK13.out 1).trans rfl; have hcz83_2 : w82.cell? ⟨gb13, 2, none⟩ = some (.int .i64 ((rd_T32 t1 x7_1).f2)) := (blk_cell BK13.out 2).trans rfl; have hfz83_0 := blk_frozen BK13.out 0; have hfz83_1 := blk_frozen BK13.out 1; have hfz83_2 := blk_frozen BK13.out 2))
                                go_ret
                                exact ⟨by first | rfl | (simp [errW_none, errW_some] <;> rfl) | (simp [*, errW_none, errW_some] <;> rfl), by repeat (first | (with_reducible first | exact HB.out | apply below_alloc | apply pw_below_drewN | apply below_drew1 | refine below_set ?_ GE13.out) | exact HB.out)⟩
                        · rw [if_neg c20] at H
                          exact absurd H (by simp)
                      · rw [if_neg c19] at H
                        exact absurd H (by simp)
                    · rw [if_neg c18] at H
                      exact absurd H (by simp)
            · rw [if_neg c8] at H
              exact absurd H (by simp)
          · rw [if_neg c7] at H
            exact absurd H (by simp)
        · rw [if_neg c6] at H
          have c6b0 : decide (0 ≤ x7_1) = false := decide_eq_false c6
          clear c6
          by_cases c84 : 0 ≤ x6_1
          · rw [if_pos c84] at H
            have c84b0 := eq_true c84
            have c84b1 : decide (0 ≤ x6_1) = true := decide_eq_true c84
            clear c84
            by_cases c85 : x6_1 ≤ (a0.size : Int)
            · rw [if_pos c85] at H
              have c85b0 := eq_true c85
              have c85b1 : decide (x6_1 ≤ (a0.size : Int)) = true := decide_eq_true c85
              clear c85
              replace H := Option.bind_eq_some_iff.mp H
              obtain ⟨t10, A860, H⟩ := H
              replace H : (if t10.toList = ([] : List UInt8) then ((driftnetlaw20_awake.f k1).bind fun t11 => (some t11)) else (some false)) = some r := H
              have A86 := Aside0.mk A860
              clear A860
              by_cases c87 : t10.toList = ([] : List UInt8)
              · rw [if_pos c87] at H
                have c87b0 : (t10.toList == ([] : List UInt8)) = true := beq_iff_eq.mpr c87
                have c87b1 : (t10.toList != ([] : List UInt8)) = false := bne_eq_false_iff_eq.mpr c87
                clear c87
                replace H := Option.bind_eq_some_iff.mp H
                obtain ⟨t11, A880, H⟩ := H
                replace H : (some t11) = some r := H
                have A88 := Aside0.mk A880
                clear A880
                obtain rfl := Option.some.inj H
                go_wp2_with (first | (go_at_call 16; (with_reducible refine (strings_Trim.calls (a0.extract 0 (x6_1 : Int).toNat) (⟨#[32, 9, 10, 13]⟩ : ByteArray) t10 _ A86.out).mono ?_); rintro e w89 ⟨rfl, hb⟩; have n0_ := Aside0.mk (Kd.R_below (rc HO_3.out) hb); have n1_ := Aside0.mk (below_step (lc HB.out) hb); clear HO_3; clear HB; have HO_3 := n0_; have HB := n1_; clear n0_ n1_; (try clear hb); (try clear hb2); (try clear hk); (try clear hi)) | (go_at_call 12; (with_reducible refine (driftnetlaw20_awake.calls k1  t11 _ ?side1 A88.out).mono ?_); (case side1 => exact G.at hG.out (lc HB.out)); rintro e w90 ⟨rfl, hb⟩; have n0_ := Aside0.mk (Kd.R_below (rc HO_3.out) hb); have n1_ := Aside0.mk (below_step (lc HB.out) hb); clear HO_3; clear HB; have HO_3 := n0_; have HB := n1_; clear n0_ n1_; (try clear hb); (try clear hb2); (try clear hk); (try clear hi)))
                go_ret
                exact ⟨by first | rfl | (simp [errW_none, errW_some] <;> rfl) | (simp [*, errW_none, errW_some] <;> rfl), by exact lc HB.out⟩
              · rw [if_neg c87] at H
                have c87b0 : (t10.toList == ([] : List UInt8)) = false := beq_eq_false_iff_ne.mpr c87
                have c87b1 : (t10.toList != ([] : List UInt8)) = true := bne_iff_ne.mpr c87
                obtain rfl := Option.some.inj H
                go_wp2_with (first | (go_at_call 16; (with_reducible refine (strings_Trim.calls (a0.extract 0 (x6_1 : Int).toNat) (⟨#[32, 9, 10, 13]⟩ : ByteArray) t10 _ A86.out).mono ?_); rintro e w91 ⟨rfl, hb⟩; have n0_ := Aside0.mk (Kd.R_below (rc HO_3.out) hb); have n1_ := Aside0.mk (below_step (lc HB.out) hb); clear HO_3; clear HB; have HO_3 := n0_; have HB := n1_; clear n0_ n1_; (try clear hb); (try clear hb2); (try clear hk); (try clear hi)))
                go_ret
                exact ⟨by first | rfl | (simp [errW_none, errW_some] <;> rfl) | (simp [*, errW_none, errW_some] <;> rfl), by exact lc HB.out⟩
            · rw [if_neg c85] at H
              exact absurd H (by simp)
          · rw [if_neg c84] at H
            exact absurd H (by simp)
  · rw [if_neg c3] at H
    have c3b0 : (t3 == 0) = false := beq_eq_false_iff_ne.mpr c3
    have c3b1 : (t3 != 0) = true := bne_iff_ne.mpr c3
    by_cases c92 : t3 = 5
    · rw [if_pos c92] at H
      have c92b0 : (t3 == 5) = true := beq_iff_eq.mpr c92
      have c92b1 : (t3 != 5) = false := bne_eq_false_iff_eq.mpr c92
      clear c92
      by_cases c93 : (a0.size : Int) > 4096
      · rw [if_pos c93] at H
        have c93b0 : decide (4096 < (a0.size : Int)) = true := decide_eq_true c93
        have c93b1 : decide (4096 < a0.size) = true := decide_eq_true (by omega)
        clear c93
        by_cases c94 : t2 = 0
        · rw [if_pos c94] at H
          have c94b0 : (t2 == 0) = true := beq_iff_eq.mpr c94
          have c94b1 : (t2 != 0) = false := bne_eq_false_iff_eq.mpr c94
          clear c94
          by_cases c95 : (t1.length : Int) = 0
          · rw [if_pos c95] at H
            have c95b0 : ((t1.length : Int) == 0) = true := beq_iff_eq.mpr c95
            have c95b1 : ((t1.length : Int) != 0) = false := bne_eq_false_iff_eq.mpr c95
            clear c95
            replace H := Option.bind_eq_some_iff.mp H
            obtain ⟨t6, A960, H⟩ := H
            replace H : (some t6) = some r := H
            have A96 := Aside0.mk A960
            clear A960
            obtain rfl := Option.some.inj H
            go_enter Tryz.func5, Tryz.ntmps5
            go_wp2_with (first | (go_at_call 8; (with_reducible refine (lex_Tokens.calls k a0 t1 t2 t3 _ ?side1 A2.out).mono ?_); (case side1 => exact G.at hG.out (lc HB.out)); rintro e w97 ⟨v4, rfl, ho0, hb⟩; have n0_ := Aside0.mk (Kd.R_lower ho0 (below_size (lc HB.out))); have n1_ := Aside0.mk (below_step (lc HB.out) hb); clear HB; have HO5 := n0_; have HB := n1_; clear n0_ n1_; (try clear hb); (try clear hb2); (try clear hk); (try clear hi); (try clear ho0); obtain ⟨Ao98, co98, eo98⟩ := Kd.R_slice HO5.out; subst eo98) | (go_at_call 12; (with_reducible refine (driftnetlaw20_awake.calls k  t6 _ ?side1 A96.out).mono ?_); (case side1 => exact G.at hG.out (lc HB.out)); rintro e w99 ⟨rfl, hb⟩; have n0_ := Aside0.mk (Kd.R_below (rc HO5.out) hb); have n1_ := Aside0.mk (below_step (lc HB.out) hb); clear HO5; clear HB; have HO5 := n0_; have HB := n1_; clear n0_ n1_; (try clear hb); (try clear hb2); (try clear hk); (try clear hi)))
            go_ret
            exact ⟨by first | rfl | (simp [errW_none, errW_some] <;> rfl) | (simp [*, errW_none, errW_some] <;> rfl), by exact lc HB.out⟩
          · rw [if_neg c95] at H
            have c95b0 : ((t1.length : Int) == 0) = false := beq_eq_false_iff_ne.mpr c95
            have c95b1 : ((t1.length : Int) != 0) = true := bne_iff_ne.mpr c95
            have c95b2 : ¬ (t1 = []) := fun h_ => c95 (by rw [h_]; rfl)
            obtain rfl := Option.some.inj H
            go_enter Tryz.func5, Tryz.ntmps5
            go_wp2_with (first | (go_at_call 8; (with_reducible refine (lex_Tokens.calls k a0 t1 t2 t3 _ ?side1 A2.out).mono ?_); (case side1 => exact G.at hG.out (lc HB.out)); rintro e w100 ⟨v4, rfl, ho0, hb⟩; have n0_ := Aside0.mk (Kd.R_lower ho0 (below_size (lc HB.out))); have n1_ := Aside0.mk (below_step (lc HB.out) hb); clear HB; have HO5 := n0_; have HB := n1_; clear n0_ n1_; (try clear hb); (try clear hb2); (try clear hk); (try clear hi); (try clear ho0); obtain ⟨Ao101, co101, eo101⟩ := Kd.R_slice HO5.out; subst eo101))
            go_ret
            exact ⟨by first | rfl | (simp [errW_none, errW_some] <;> rfl) | (simp [*, errW_none, errW_some] <;> rfl), by exact lc HB.out⟩
        · rw [if_neg c94] at H
          have c94b0 : (t2 == 0) = false := beq_eq_false_iff_ne.mpr c94
          have c94b1 : (t2 != 0) = true := bne_iff_ne.mpr c94
          by_cases c102 : t3 = 200
          · rw [if_pos c102] at H
            have c102b0 : (t3 == 200) = true := beq_iff_eq.mpr c102
            have c102b1 : (t3 != 200) = false := bne_eq_false_iff_eq.mpr c102
            clear c102
            by_cases c103 : t2 ≥ 0
            · rw [if_pos c103] at H
              have c103b0 : decide (0 ≤ t2) = true := decide_eq_true c103
              clear c103
              by_cases c104 : t2 < (a0.size : Int)
              · rw [if_pos c104] at H
                have c104b0 : decide (t2 < (a0.size : Int)) = true := decide_eq_true c104
                clear c104
                by_cases c105 : (t1.length : Int) = 0
                · rw [if_pos c105] at H
                  have c105b0 : ((t1.length : Int) == 0) = true := beq_iff_eq.mpr c105
                  have c105b1 : ((t1.length : Int) != 0) = false := bne_eq_false_iff_eq.mpr c105
                  clear c105
                  replace H := Option.bind_eq_some_iff.mp H
                  obtain ⟨t7, A1060, H⟩ := H
                  replace H : (some t7) = some r := H
                  have A106 := Aside0.mk A1060
                  clear A1060
                  obtain rfl := Option.some.inj H
                  go_enter Tryz.func5, Tryz.ntmps5
                  go_wp2_with (first | (go_at_call 8; (with_reducible refine (lex_Tokens.calls k a0 t1 t2 t3 _ ?side1 A2.out).mono ?_); (case side1 => exact G.at hG.out (lc HB.out)); rintro e w107 ⟨v4, rfl, ho0, hb⟩; have n0_ := Aside0.mk (Kd.R_lower ho0 (below_size (lc HB.out))); have n1_ := Aside0.mk (below_step (lc HB.out) hb); clear HB; have HO5 := n0_; have HB := n1_; clear n0_ n1_; (try clear hb); (try clear hb2); (try clear hk); (try clear hi); (try clear ho0); obtain ⟨Ao108, co108, eo108⟩ := Kd.R_slice HO5.out; subst eo108) | (go_at_call 12; (with_reducible refine (driftnetlaw20_awake.calls k  t7 _ ?side1 A106.out).mono ?_); (case side1 => exact G.at hG.out (lc HB.out)); rintro e w109 ⟨rfl, hb⟩; have n0_ := Aside0.mk (Kd.R_below (rc HO5.out) hb); have n1_ := Aside0.mk (below_step (lc HB.out) hb); clear HO5; clear HB; have HO5 := n0_; have HB := n1_; clear n0_ n1_; (try clear hb); (try clear hb2); (try clear hk); (try clear hi)))
                  go_ret
                  exact ⟨by first | rfl | (simp [errW_none, errW_some] <;> rfl) | (simp [*, errW_none, errW_some] <;> rfl), by exact lc HB.out⟩
                · rw [if_neg c105] at H
                  have c105b0 : ((t1.length : Int) == 0) = false := beq_eq_false_iff_ne.mpr c105
                  have c105b1 : ((t1.length : Int) != 0) = true := bne_iff_ne.mpr c105
                  have c105b2 : ¬ (t1 = []) := fun h_ => c105 (by rw [h_]; rfl)
                  obtain rfl := Option.some.inj H
                  go_enter Tryz.func5, Tryz.ntmps5
                  go_wp2_with (first | (go_at_call 8; (with_reducible refine (lex_Tokens.calls k a0 t1 t2 t3 _ ?side1 A2.out).mono ?_); (case side1 => exact G.at hG.out (lc HB.out)); rintro e w110 ⟨v4, rfl, ho0, hb⟩; have n0_ := Aside0.mk (Kd.R_lower ho0 (below_size (lc HB.out))); have n1_ := Aside0.mk (below_step (lc HB.out) hb); clear HB; have HO5 := n0_; have HB := n1_; clear n0_ n1_; (try clear hb); (try clear hb2); (try clear hk); (try clear hi); (try clear ho0); obtain ⟨Ao111, co111, eo111⟩ := Kd.R_slice HO5.out; subst eo111))
                  go_ret
                  exact ⟨by first | rfl | (simp [errW_none, errW_some] <;> rfl) | (simp [*, errW_none, errW_some] <;> rfl), by exact lc HB.out⟩
              · rw [if_neg c104] at H
                have c104b0 : decide (t2 < (a0.size : Int)) = false := decide_eq_false c104
                clear c104
                obtain rfl := Option.some.inj H
                go_enter Tryz.func5, Tryz.ntmps5
                go_wp2_with (first | (go_at_call 8; (with_reducible refine (lex_Tokens.calls k a0 t1 t2 t3 _ ?side1 A2.out).mono ?_); (case side1 => exact G.at hG.out (lc HB.out)); rintro e w112 ⟨v4, rfl, ho0, hb⟩; have n0_ := Aside0.mk (Kd.R_lower ho0 (below_size (lc HB.out))); have n1_ := Aside0.mk (below_step (lc HB.out) hb); clear HB; have HO5 := n0_; have HB := n1_; clear n0_ n1_; (try clear hb); (try clear hb2); (try clear hk); (try clear hi); (try clear ho0)))
                go_ret
                exact ⟨by first | rfl | (simp [errW_none, errW_some] <;> rfl) | (simp [*, errW_none, errW_some] <;> rfl), by exact lc HB.out⟩
            · rw [if_neg c103] at H
              have c103b0 : decide (0 ≤ t2) = false := decide_eq_false c103
              clear c103
              obtain rfl := Option.some.inj H
              go_enter Tryz.func5, Tryz.ntmps5
              go_wp2_with (first | (go_at_call 8; (with_reducible refine (lex_Tokens.calls k a0 t1 t2 t3 _ ?side1 A2.out).mono ?_); (case side1 => exact G.at hG.out (lc HB.out)); rintro e w113 ⟨v4, rfl, ho0, hb⟩; have n0_ := Aside0.mk (Kd.R_lower ho0 (below_size (lc HB.out))); have n1_ := Aside0.mk (below_step (lc HB.out) hb); clear HB; have HO5 := n0_; have HB := n1_; clear n0_ n1_; (try clear hb); (try clear hb2); (try clear hk); (try clear hi); (try clear ho0)))
              go_ret
              exact ⟨by first | rfl | (simp [errW_none, errW_some] <;> rfl) | (simp [*, errW_none, errW_some] <;> rfl), by exact lc HB.out⟩
          · rw [if_neg c102] at H
            have c102b0 : (t3 == 200) = false := beq_eq_false_iff_ne.mpr c102
            have c102b1 : (t3 != 200) = true := bne_iff_ne.mpr c102
            obtain rfl := Option.some.inj H
            go_enter Tryz.func5, Tryz.ntmps5
            go_wp2_with (first | (go_at_call 8; (with_reducible refine (lex_Tokens.calls k a0 t1 t2 t3 _ ?side1 A2.out).mono ?_); (case side1 => exact G.at hG.out (lc HB.out)); rintro e w114 ⟨v4, rfl, ho0, hb⟩; have n0_ := Aside0.mk (Kd.R_lower ho0 (below_size (lc HB.out))); have n1_ := Aside0.mk (below_step (lc HB.out) hb); clear HB; have HO5 := n0_; have HB := n1_; clear n0_ n1_; (try clear hb); (try clear hb2); (try clear hk); (try clear hi); (try clear ho0)))
            go_ret
            exact ⟨by first | rfl | (simp [errW_none, errW_some] <;> rfl) | (simp [*, errW_none, errW_some] <;> rfl), by exact lc HB.out⟩
      · rw [if_neg c93] at H
        have c93b0 : decide (4096 < (a0.size : Int)) = false := decide_eq_false c93
        have c93b1 : decide (4096 < a0.size) = false := decide_eq_false (by omega)
        clear c93
        by_cases c115 : t3 = 200
        · rw [if_pos c115] at H
          have c115b0 : (t3 == 200) = true := beq_iff_eq.mpr c115
          have c115b1 : (t3 != 200) = false := bne_eq_false_iff_eq.mpr c115
          clear c115
          by_cases c116 : t2 ≥ 0
          · rw [if_pos c116] at H
            have c116b0 : decide (0 ≤ t2) = true := decide_eq_true c116
            clear c116
            by_cases c117 : t2 < (a0.size : Int)
            · rw [if_pos c117] at H
              have c117b0 : decide (t2 < (a0.size : Int)) = true := decide_eq_true c117
              clear c117
              by_cases c118 : (t1.length : Int) = 0
              · rw [if_pos c118] at H
                have c118b0 : ((t1.length : Int) == 0) = true := beq_iff_eq.mpr c118
                have c118b1 : ((t1.length : Int) != 0) = false := bne_eq_false_iff_eq.mpr c118
                clear c118
                replace H := Option.bind_eq_some_iff.mp H
                obtain ⟨t8, A1190, H⟩ := H
                replace H : (some t8) = some r := H
                have A119 := Aside0.mk A1190
                clear A1190
                obtain rfl := Option.some.inj H
                go_enter Tryz.func5, Tryz.ntmps5
                go_wp2_with (first | (go_at_call 8; (with_reducible refine (lex_Tokens.calls k a0 t1 t2 t3 _ ?side1 A2.out).mono ?_); (case side1 => exact G.at hG.out (lc HB.out)); rintro e w120 ⟨v4, rfl, ho0, hb⟩; have n0_ := Aside0.mk (Kd.R_lower ho0 (below_size (lc HB.out))); have n1_ := Aside0.mk (below_step (lc HB.out) hb); clear HB; have HO5 := n0_; have HB := n1_; clear n0_ n1_; (try clear hb); (try clear hb2); (try clear hk); (try clear hi); (try clear ho0); obtain ⟨Ao121, co121, eo121⟩ := Kd.R_slice HO5.out; subst eo121) | (go_at_call 12; (with_reducible refine (driftnetlaw20_awake.calls k  t8 _ ?side1 A119.out).mono ?_); (case side1 => exact G.at hG.out (lc HB.out)); rintro e w122 ⟨rfl, hb⟩; have n0_ := Aside0.mk (Kd.R_below (rc HO5.out) hb); have n1_ := Aside0.mk (below_step (lc HB.out) hb); clear HO5; clear HB; have HO5 := n0_; have HB := n1_; clear n0_ n1_; (try clear hb); (try clear hb2); (try clear hk); (try clear hi)))
                go_ret
                exact ⟨by first | rfl | (simp [errW_none, errW_some] <;> rfl) | (simp [*, errW_none, errW_some] <;> rfl), by exact lc HB.out⟩
              · rw [if_neg c118] at H
                have c118b0 : ((t1.length : Int) == 0) = false := beq_eq_false_iff_ne.mpr c118
                have c118b1 : ((t1.length : Int) != 0) = true := bne_iff_ne.mpr c118
                have c118b2 : ¬ (t1 = []) := fun h_ => c118 (by rw [h_]; rfl)
                obtain rfl := Option.some.inj H
                go_enter Tryz.func5, Tryz.ntmps5
                go_wp2_with (first | (go_at_call 8; (with_reducible refine (lex_Tokens.calls k a0 t1 t2 t3 _ ?side1 A2.out).mono ?_); (case side1 => exact G.at hG.out (lc HB.out)); rintro e w123 ⟨v4, rfl, ho0, hb⟩; have n0_ := Aside0.mk (Kd.R_lower ho0 (below_size (lc HB.out))); have n1_ := Aside0.mk (below_step (lc HB.out) hb); clear HB; have HO5 := n0_; have HB := n1_; clear n0_ n1_; (try clear hb); (try clear hb2); (try clear hk); (try clear hi); (try clear ho0); obtain ⟨Ao124, co124, eo124⟩ := Kd.R_slice HO5.out; subst eo124))
                go_ret
                exact ⟨by first | rfl | (simp [errW_none, errW_some] <;> rfl) | (simp [*, errW_none, errW_some] <;> rfl), by exact lc HB.out⟩
            · rw [if_neg c117] at H
              have c117b0 : decide (t2 < (a0.size : Int)) = false := decide_eq_false c117
              clear c117
              obtain rfl := Option.some.inj H
              go_enter Tryz.func5, Tryz.ntmps5
              go_wp2_with (first | (go_at_call 8; (with_reducible refine (lex_Tokens.calls k a0 t1 t2 t3 _ ?side1 A2.out).mono ?_); (case side1 => exact G.at hG.out (lc HB.out)); rintro e w125 ⟨v4, rfl, ho0, hb⟩; have n0_ := Aside0.mk (Kd.R_lower ho0 (below_size (lc HB.out))); have n1_ := Aside0.mk (below_step (lc HB.out) hb); clear HB; have HO5 := n0_; have HB := n1_; clear n0_ n1_; (try clear hb); (try clear hb2); (try clear hk); (try clear hi); (try clear ho0)))
              go_ret
              exact ⟨by first | rfl | (simp [errW_none, errW_some] <;> rfl) | (simp [*, errW_none, errW_some] <;> rfl), by exact lc HB.out⟩
          · rw [if_neg c116] at H
            have c116b0 : decide (0 ≤ t2) = false := decide_eq_false c116
            clear c116
            obtain rfl := Option.some.inj H
            go_enter Tryz.func5, Tryz.ntmps5
            go_wp2_with (first | (go_at_call 8; (with_reducible refine (lex_Tokens.calls k a0 t1 t2 t3 _ ?side1 A2.out).mono ?_); (case side1 => exact G.at hG.out (lc HB.out)); rintro e w126 ⟨v4, rfl, ho0, hb⟩; have n0_ := Aside0.mk (Kd.R_lower ho0 (below_size (lc HB.out))); have n1_ := Aside0.mk (below_step (lc HB.out) hb); clear HB; have HO5 := n0_; have HB := n1_; clear n0_ n1_; (try clear hb); (try clear hb2); (try clear hk); (try clear hi); (try clear ho0)))
            go_ret
            exact ⟨by first | rfl | (simp [errW_none, errW_some] <;> rfl) | (simp [*, errW_none, errW_some] <;> rfl), by exact lc HB.out⟩
        · rw [if_neg c115] at H
          have c115b0 : (t3 == 200) = false := beq_eq_false_iff_ne.mpr c115
          have c115b1 : (t3 != 200) = true := bne_iff_ne.mpr c115
          obtain rfl := Option.some.inj H
          go_enter Tryz.func5, Tryz.ntmps5
          go_wp2_with (first | (go_at_call 8; (with_reducible refine (lex_Tokens.calls k a0 t1 t2 t3 _ ?side1 A2.out).mono ?_); (case side1 => exact G.at hG.out (lc HB.out)); rintro e w127 ⟨v4, rfl, ho0, hb⟩; have n0_ := Aside0.mk (Kd.R_lower ho0 (below_size (lc HB.out))); have n1_ := Aside0.mk (below_step (lc HB.out) hb); clear HB; have HO5 := n0_; have HB := n1_; clear n0_ n1_; (try clear hb); (try clear hb2); (try clear hk); (try clear hi); (try clear ho0)))
          go_ret
          exact ⟨by first | rfl | (simp [errW_none, errW_some] <;> rfl) | (simp [*, errW_none, errW_some] <;> rfl), by exact lc HB.out⟩
    · rw [if_neg c92] at H
      have c92b0 : (t3 == 5) = false := beq_eq_false_iff_ne.mpr c92
      have c92b1 : (t3 != 5) = true := bne_iff_ne.mpr c92
      by_cases c128 : t3 = 200
      · rw [if_pos c128] at H
        have c128b0 : (t3 == 200) = true := beq_iff_eq.mpr c128
        have c128b1 : (t3 != 200) = false := bne_eq_false_iff_eq.mpr c128
        clear c128
        by_cases c129 : t2 ≥ 0
        · rw [if_pos c129] at H
          have c129b0 : decide (0 ≤ t2) = true := decide_eq_true c129
          clear c129
          by_cases c130 : t2 < (a0.size : Int)
          · rw [if_pos c130] at H
            have c130b0 : decide (t2 < (a0.size : Int)) = true := decide_eq_true c130
            clear c130
            by_cases c131 : (t1.length : Int) = 0
            · rw [if_pos c131] at H
              have c131b0 : ((t1.length : Int) == 0) = true := beq_iff_eq.mpr c131
              have c131b1 : ((t1.length : Int) != 0) = false := bne_eq_false_iff_eq.mpr c131
              clear c131
              replace H := Option.bind_eq_some_iff.mp H
              obtain ⟨t9, A1320, H⟩ := H
              replace H : (some t9) = some r := H
              have A132 := Aside0.mk A1320
              clear A1320
              obtain rfl := Option.some.inj H
              go_enter Tryz.func5, Tryz.ntmps5
              go_wp2_with (first | (go_at_call 8; (with_reducible refine (lex_Tokens.calls k a0 t1 t2 t3 _ ?side1 A2.out).mono ?_); (case side1 => exact G.at hG.out (lc HB.out)); rintro e w133 ⟨v4, rfl, ho0, hb⟩; have n0_ := Aside0.mk (Kd.R_lower ho0 (below_size (lc HB.out))); have n1_ := Aside0.mk (below_step (lc HB.out) hb); clear HB; have HO5 := n0_; have HB := n1_; clear n0_ n1_; (try clear hb); (try clear hb2); (try clear hk); (try clear hi); (try clear ho0); obtain ⟨Ao134, co134, eo134⟩ := Kd.R_slice HO5.out; subst eo134) | (go_at_call 12; (with_reducible refine (driftnetlaw20_awake.calls k  t9 _ ?side1 A132.out).mono ?_); (case side1 => exact G.at hG.out (lc HB.out)); rintro e w135 ⟨rfl, hb⟩; have n0_ := Aside0.mk (Kd.R_below (rc HO5.out) hb); have n1_ := Aside0.mk (below_step (lc HB.out) hb); clear HO5; clear HB; have HO5 := n0_; have HB := n1_; clear n0_ n1_; (try clear hb); (try clear hb2); (try clear hk); (try clear hi)))
              go_ret
              exact ⟨by first | rfl | (simp [errW_none, errW_some] <;> rfl) | (simp [*, errW_none, errW_some] <;> rfl), by exact lc HB.out⟩
            · rw [if_neg c131] at H
              have c131b0 : ((t1.length : Int) == 0) = false := beq_eq_false_iff_ne.mpr c131
              have c131b1 : ((t1.length : Int) != 0) = true := bne_iff_ne.mpr c131
              have c131b2 : ¬ (t1 = []) := fun h_ => c131 (by rw [h_]; rfl)
              obtain rfl := Option.some.inj H
              go_enter Tryz.func5, Tryz.ntmps5
              go_wp2_with (first | (go_at_call 8; (with_reducible refine (lex_Tokens.calls k a0 t1 t2 t3 _ ?side1 A2.out).mono ?_); (case side1 => exact G.at hG.out (lc HB.out)); rintro e w136 ⟨v4, rfl, ho0, hb⟩; have n0_ := Aside0.mk (Kd.R_lower ho0 (below_size (lc HB.out))); have n1_ := Aside0.mk (below_step (lc HB.out) hb); clear HB; have HO5 := n0_; have HB := n1_; clear n0_ n1_; (try clear hb); (try clear hb2); (try clear hk); (try clear hi); (try clear ho0); obtain ⟨Ao137, co137, eo137⟩ := Kd.R_slice HO5.out; subst eo137))
              go_ret
              exact ⟨by first | rfl | (simp [errW_none, errW_some] <;> rfl) | (simp [*, errW_none, errW_some] <;> rfl), by exact lc HB.out⟩
          · rw [if_neg c130] at H
            have c130b0 : decide (t2 < (a0.size : Int)) = false := decide_eq_false c130
            clear c130
            obtain rfl := Option.some.inj H
            go_enter Tryz.func5, Tryz.ntmps5
            go_wp2_with (first | (go_at_call 8; (with_reducible refine (lex_Tokens.calls k a0 t1 t2 t3 _ ?side1 A2.out).mono ?_); (case side1 => exact G.at hG.out (lc HB.out)); rintro e w138 ⟨v4, rfl, ho0, hb⟩; have n0_ := Aside0.mk (Kd.R_lower ho0 (below_size (lc HB.out))); have n1_ := Aside0.mk (below_step (lc HB.out) hb); clear HB; have HO5 := n0_; have HB := n1_; clear n0_ n1_; (try clear hb); (try clear hb2); (try clear hk); (try clear hi); (try clear ho0)))
            go_ret
            exact ⟨by first | rfl | (simp [errW_none, errW_some] <;> rfl) | (simp [*, errW_none, errW_some] <;> rfl), by exact lc HB.out⟩
        · rw [if_neg c129] at H
          have c129b0 : decide (0 ≤ t2) = false := decide_eq_false c129
          clear c129
          obtain rfl := Option.some.inj H
          go_enter Tryz.func5, Tryz.ntmps5
          go_wp2_with (first | (go_at_call 8; (with_reducible refine (lex_Tokens.calls k a0 t1 t2 t3 _ ?side1 A2.out).mono ?_); (case side1 => exact G.at hG.out (lc HB.out)); rintro e w139 ⟨v4, rfl, ho0, hb⟩; have n0_ := Aside0.mk (Kd.R_lower ho0 (below_size (lc HB.out))); have n1_ := Aside0.mk (below_step (lc HB.out) hb); clear HB; have HO5 := n0_; have HB := n1_; clear n0_ n1_; (try clear hb); (try clear hb2); (try clear hk); (try clear hi); (try clear ho0)))
          go_ret
          exact ⟨by first | rfl | (simp [errW_none, errW_some] <;> rfl) | (simp [*, errW_none, errW_some] <;> rfl), by exact lc HB.out⟩
      · rw [if_neg c128] at H
        have c128b0 : (t3 == 200) = false := beq_eq_false_iff_ne.mpr c128
        have c128b1 : (t3 != 200) = true := bne_iff_ne.mpr c128
        obtain rfl := Option.some.inj H
        go_enter Tryz.func5, Tryz.ntmps5
        go_wp2_with (first | (go_at_call 8; (with_reducible refine (lex_Tokens.calls k a0 t1 t2 t3 _ ?side1 A2.out).mono ?_); (case side1 => exact G.at hG.out (lc HB.out)); rintro e w140 ⟨v4, rfl, ho0, hb⟩; have n0_ := Aside0.mk (Kd.R_lower ho0 (below_size (lc HB.out))); have n1_ := Aside0.mk (below_step (lc HB.out) hb); clear HB; have HO5 := n0_; have HB := n1_; clear n0_ n1_; (try clear hb); (try clear hb2); (try clear hk); (try clear hi); (try clear ho0)))
        go_ret
        exact ⟨by first | rfl | (simp [errW_none, errW_some] <;> rfl) | (simp [*, errW_none, errW_some] <;> rfl), by exact lc HB.out⟩
/-- THE ONE PURE STATEMENT of driftnetlaw20_LexAll: yours. -/
def driftnetlaw20_LexAll.Pure : Prop := ∀ (a0 : ByteArray), a0.size ≤ 140737488351232 → ∃ k, driftnetlaw20_LexAll.f k a0 = some true
theorem driftnetlaw20_LexAll.walk (P : driftnetlaw20_LexAll.Pure) (a0 : ByteArray) (w : World) (hG : Aside0 (G w)) (w0 : a0.size ≤ 140737488351232) :
    Calls Tryz.prog 5 #[.string a0] w fun e w' => e = .returned (.bool true) ∧ Below w.heap.size w w' := by
  obtain ⟨k, h⟩ := P a0 w0
  refine (driftnetlaw20_LexAll.calls k a0 true w hG h).mono ?_
  rintro e w' ⟨rfl, hd⟩
  exact ⟨rfl, hd⟩
end Go.Proofs.YtioofhilohmfbaaGreatDoor.P
end
section
namespace Go.Proofs.YtioofhilohmfbaaGreatDoor.lexAll
open Go Go.ChangeShapes Go.WideShapes Go.ChangeAt Go.RowKit
open Go.ChangeMaps (open_string shut_string)
set_option linter.unusedVariables false
theorem own : ownKnob Tryz.prog.godebug = none := by kernel_rfl
set_option maxRecDepth 100000 in
theorem lifted (PU : P.driftnetlaw20_LexAll.Pure) (os : Os) (started : os.Started) (H : Type) (enc : TypeId × Value → H) :
    ReturnsInHanded {} Tryz.checked os 5 .any (fun w args => (Rows.lexAllSpec.pre enc Tryz.prog Tryz.f5 Rows.lexAllRow.domain false w args ∧ laidMetH Tryz.prog Rows.lexAllRow.laid w) ∧ sizedMet enc Tryz.prog Tryz.f5 (OpenSpec.ofChange Rows.lexAllSpec) false w args)
      (Rows.lexAllSpec.post enc Tryz.prog Tryz.f5 false true false false) := by
  refine returnsInHanded_of_change_and (C := Tryz.checked) (X := fun w _ => laidMetH Tryz.prog laidL w) (fun _ _ _ hh h => h.of_heap hh) own started (by kernel_rfl) Tryz.func5
    (ChangeSpec.witness_shaped (enc := enc) (C := Tryz.checked) (os := os) (X := fun w _ => laidMetH Tryz.prog laidL w) false (world0 os) #[.string ⟨#[]⟩] 8 (world0_os _)
      (World.shaped_of_ZipB (by kernel_rfl) (by kernel_rfl)) (by kernel_rfl) (by kernel_rfl) (by kernel_rfl) (world0_met os _)) ?_
  intro W base args ds gs before hval0 hW hcnd hsz0 hL _
  have hsz : (DataW.weightsEach Tryz.prog (Tryz.f5.params.toList ++ Rows.lexAllSpec.plain.varTypes Tryz.prog) (ds ++ gs)).all (· ≤ reachBytes) = true := hsz0
  have hval : ∀ (j : Nat) t v, Tryz.f5.params[j]? = some t → args[j]? = some v → Value.okWide Tryz.prog W .any base t v := hval0
  have hW' := hW
  obtain ⟨p, q, hA0, hV, rfl, hfz, hnd⟩ := hW
  have hA : DataW.TrodAll enc Tryz.prog W 0 (fun _ => true) true Tryz.f5.params.toList args.toList ds p := hA0
  rw [Tryz.params5] at hA hval hsz
  obtain ⟨v0, vs0, d0, ds0, p0, q0, hargs, rfl, rfl, h0, r0⟩ := trodAll_cons hA
  obtain ⟨rfl, rfl, rfl⟩ := trodAll_nil r0
  obtain rfl : args = #[v0] := by cases args; simp_all
  obtain ⟨rfl, rfl⟩ := trodVars_none hV
  obtain ⟨a0, rfl, rfl, rfl, y0⟩ := open_string Tryz.underlying9 (hval 0 9 v0 rfl rfl) h0
  have w0 : a0.size ≤ 140737488351232 := by
    have z := sized_string hsz (j := 0) (t := 9) rfl rfl
    rw [Array.length_toList] at z
    exact z
  clear hA0 hval0 hsz0 hsz
  refine (P.driftnetlaw20_LexAll.walk PU a0 W ⟨G_of_laid hL⟩ w0).mono fun e W' ⟨he, bel⟩ => ?_
  subst he
  exact ⟨_, rfl, _, _, _, [], _, [], hW', trodAll_mk1 (shut_bool Tryz.underlying4 _), (trodAll_cons_mk (shut_string Tryz.underlying9 y0) trodAll_mk0), rfl, bel.frame _, fun h => by cases h⟩
theorem over (PU : P.driftnetlaw20_LexAll.Pure) : Rows.LexAllSaid :=
  OpenClaim.holds_of_wide 5 Tryz.f5 rfl rfl rfl rfl rfl rfl rfl ⟨rfl, rfl, rfl, rfl, rfl⟩ rfl rfl rfl rfl rfl (by kernel_rfl) Tryz.func5 (by kernel_rfl)
    (of_decide_eq_true (by kernel_rfl)) (by unfold Func.isWrapper; first | (rw [if_pos (by decide +kernel)]; kernel_rfl) | (rw [if_neg (by decide +kernel)]; exact ⟨rfl, rfl⟩))
    (fun os started H enc _ => lifted PU os started H enc)
theorem card_of (PU : P.driftnetlaw20_LexAll.Pure) : Rows.LexAllCardSaid :=
  Claim7.holds_tied_plain_at .later [] Rows.lexAllCard.laidKinds true Rows.lexAllCard.stood.harness Rows.lexAllCard.stood.looks (over PU) (fun _ h => by cases h) (by kernel_rfl) (fun _ h => by cases h) lexAll_row_tie rfl ⟨rfl, rfl⟩ (by kernel_rfl) rfl
    (fun f fn hf hfn => by
      obtain rfl : f = 5 := Option.some.inj ((show Tryz.prog.funcNamed "driftnet/driftnetlaw20.LexAll" = some 5 by kernel_rfl).symm.trans hf) |>.symm
      obtain rfl : fn = Tryz.f5 := (Option.some.inj (Tryz.func5.symm.trans hfn)).symm
      exact ⟨by kernel_rfl, fun j t ht => by
        rw [Tryz.params5] at ht
        have hm : t ∈ [9] := by simpa using Array.mem_of_getElem? ht
        have hall : ([9].all fun u => !Tryz.prog.wantsStandIn u) = true := by kernel_rfl
        exact (show Tryz.prog.wantsStandIn t = false by simpa using List.all_eq_true.1 hall t hm)⟩)
    (by kernel_rfl)
end Go.Proofs.YtioofhilohmfbaaGreatDoor.lexAll
end
section
set_option linter.unusedVariables false
set_option linter.unusedSimpArgs false
namespace Go.Proofs.YtioofhilohmfbaaGreatDoor
open Go Go.RowKit Go.Lib Go.Proofs.YtioofhilohmfbaaGreatDoorW.PrintWords Go.Proofs.YtioofhilohmfbaaGreatDoorW.PrintLast Go.Proofs.YtioofhilohmfbaaGreatDoorW.PrintMore Go.Proofs.YtioofhilohmfbaaGreatDoor.P
/-- A token: its kind, its text, the byte at which it begins. -/
abbrev Tk := Int × ByteArray × Nat
def toksP : Nat → Nat → List UInt8 → Nat ⊕ List Tk
  | 0, a, _ => .inl a
  | f + 1, a, l =>
    if l.drop (runN blankB l) = [] then .inr []
    else if (firstP (l.drop (runN blankB l))).2.2.2 = true then
      match toksP f (a + runN blankB l + (firstP (l.drop (runN blankB l))).2.2.1) ((l.drop (runN blankB l)).drop (firstP (l.drop (runN blankB l))).2.2.1) with
      | .inl b => .inl b
      | .inr ts => .inr (((firstP (l.drop (runN blankB l))).1, (firstP (l.drop (runN blankB l))).2.1, a + runN blankB l) :: ts)
    else .inl (a + runN blankB l)
/-- From a byte on these tokens stand there, and blanks between them. -/
def CutP (s : List UInt8) : Nat → List Tk → Prop
  | a, [] => ∀ c ∈ s.drop a, blankB c = true
  | a, t :: ts => a ≤ t.2.2 ∧ t.2.2 < s.length ∧ (∀ c ∈ (s.drop a).take (t.2.2 - a), blankB c = true) ∧ ∃ n, firstP (s.drop t.2.2) = (t.1, t.2.1, n, true) ∧ CutP s (t.2.2 + n) ts
theorem toks_cut (s : List UInt8) : ∀ (f a : Nat) (ts : List Tk), a ≤ s.length → toksP f a (s.drop a) = .inr ts → CutP s a ts
  | 0, a, ts, ha, h => by cases h
  | f + 1, a, ts, ha, h => by
    obtain ⟨b, hb⟩ : ∃ b, runN blankB (s.drop a) = b := ⟨_, rfl⟩
    have hble := runN_le blankB (s.drop a)
    have hball := runN_in blankB (s.drop a)
    rw [toksP] at h
    rw [hb] at h hble hball
    rw [List.length_drop] at hble
    rw [List.drop_drop] at h
    obtain ⟨⟨k, x, n, ok⟩, hf⟩ : ∃ v, firstP (s.drop (a + b)) = v := ⟨_, rfl⟩
    rw [hf] at h
    by_cases he : s.drop (a + b) = []
    · rw [if_pos he] at h
      cases h
      have hz : s.length ≤ a + b := List.drop_eq_nil_iff.1 he
      intro c hc
      refine hball c ?_
      rw [List.take_of_length_le (by rw [List.length_drop]; omega)]
      exact hc
    · rw [if_neg he] at h
      have hz : a + b < s.length := Nat.lt_of_not_le fun h => he (List.drop_eq_nil_iff.2 h)
      cases ok with
      | false => simp at h
      | true =>
        simp only [if_true] at h
        rw [List.drop_drop] at h
        have hok := firstP_ok hf
        have hle := hok.le
        rw [List.length_drop] at hle
        cases hr : toksP f (a + b + n) (s.drop (a + b + n)) with
        | inl c => rw [hr] at h; cases h
        | inr us =>
          rw [hr] at h
          cases h
          refine ⟨Nat.le_add_right _ _, hz, ?_, n, hf, toks_cut s f (a + b + n) us (by omega) hr⟩
          rw [Nat.add_sub_cancel_left]
          exact hball
/-- Where what follows a list of tokens begins. -/
def endP (s : List UInt8) : List Tk → Nat
  | [] => s.length
  | t :: _ => t.2.2
theorem cut_ahead {s : List UInt8} {a : Nat} {ts : List Tk} (ha : a ≤ s.length) (h : CutP s a ts) : a ≤ endP s ts ∧ endP s ts ≤ s.length ∧ ∀ c ∈ (s.drop a).take (endP s ts - a), blankB c = true := by
  cases ts with
  | nil =>
    refine ⟨ha, Nat.le_refl _, fun c hc => h c ?_⟩
    exact List.mem_of_mem_take hc
  | cons t ts => exact ⟨h.1, Nat.le_of_lt h.2.1, h.2.2.1⟩
/-- A token, and what stands behind it up to the next. -/
theorem cut_one {s : List UInt8} {a : Nat} {t : Tk} {ts : List Tk} (h : CutP s a (t :: ts)) : ∃ n, TokOk (s.drop t.2.2) t.1 t.2.1 n ∧ firstP (s.drop t.2.2) = (t.1, t.2.1, n, true) ∧ t.2.2 + n ≤ endP s ts ∧ endP s ts ≤ s.length ∧ (∀ c ∈ ((s.drop t.2.2).take (endP s ts - t.2.2)).drop n, blankB c = true) ∧ CutP s (t.2.2 + n) ts := by
  obtain ⟨h1, h2, h3, n, h4, h5⟩ := h
  have hok := firstP_ok h4
  have hle := hok.le
  rw [List.length_drop] at hle
  obtain ⟨g1, g2, g3⟩ := cut_ahead (by omega) h5
  refine ⟨n, hok, h4, g1, g2, fun c hc => g3 c ?_, h5⟩
  rw [List.drop_take, List.drop_drop] at hc
  rw [show endP s ts - (t.2.2 + n) = endP s ts - t.2.2 - n by omega]
  exact hc
theorem cut_drop {s : List UInt8} : ∀ (ts : List Tk) (a i : Nat), a ≤ s.length → CutP s a ts → i ≤ ts.length → ∃ a', a' ≤ s.length ∧ CutP s a' (ts.drop i)
  | ts, a, 0, ha, h, hi => ⟨a, ha, h⟩
  | [], a, i + 1, ha, h, hi => by simp at hi
  | t :: ts, a, i + 1, ha, h, hi => by
    obtain ⟨n, h1, h2, h3, h4, h5, h6⟩ := cut_one h
    rw [List.drop_succ_cons]
    exact cut_drop ts (t.2.2 + n) i (by omega) h6 (by simpa using hi)
/-- A token that is written: blanks ahead, its bytes, its kind, its text. -/
structure Item where
  b : List UInt8
  x : List UInt8
  k : Int
  t : ByteArray
structure ItemOk (it : Item) : Prop where
  b : ∀ c ∈ it.b, blankB c = true
  x : it.x ≠ []
  first : ∀ c r, blankB c = true → firstP (it.x ++ c :: r) = (it.k, it.t, it.x.length, true)
end Go.Proofs.YtioofhilohmfbaaGreatDoor
end
section
set_option linter.unusedVariables false
set_option linter.unusedSimpArgs false
namespace Go.Proofs.YtioofhilohmfbaaGreatDoor
open Go Go.RowKit Go.Lib Go.Proofs.YtioofhilohmfbaaGreatDoorW.PrintWords Go.Proofs.YtioofhilohmfbaaGreatDoorW.PrintLast Go.Proofs.YtioofhilohmfbaaGreatDoorW.PrintMore Go.Proofs.YtioofhilohmfbaaGreatDoor.P
def tkS (t : Tk) : S32 := ⟨t.1, t.2.1, (t.2.2 : Int)⟩
theorem bx_ext {s t : ByteArray} (h : s.data.toList = t.data.toList) : s = t := ByteArray.ext (Array.toList_inj.1 h)
theorem bx_extract (s : ByteArray) (a b : Nat) : (s.extract a b).data.toList = (s.data.toList.take b).drop a := by
  rw [ByteArray.data_extract, Array.toList_extract, List.extract_eq_take_drop, List.drop_take]
theorem bx_drop (s : ByteArray) (a : Nat) : (s.extract a s.size).data.toList = s.data.toList.drop a := by
  rw [bx_extract, Lib.size_eq, List.take_length]
theorem bx_size_drop (s : ByteArray) (a : Nat) : (s.extract a s.size).size = s.size - a := by
  rw [Lib.size_eq, bx_drop, List.length_drop, ← Lib.size_eq]
theorem blank_at (s : ByteArray) (a : Nat) (hs : s.size ≤ 4096) : P.lex_runBlank.f (s.extract a s.size) = some ((runN blankB (s.data.toList.drop a) : Nat) : Int) := by
  unfold P.lex_runBlank.f
  rw [if_pos (by rw [bx_size_drop]; omega), bx_drop]
theorem first_at (s : ByteArray) (a : Nat) (hs : s.size ≤ 4096) (ha : a < s.size) {v : Int × ByteArray × Nat × Bool} (hv : firstP (s.data.toList.drop a) = v) : P.lex_first.f (s.extract a s.size) = some (v.1, v.2.1, 0, (v.2.2.1 : Int), v.2.2.2) := by
  unfold P.lex_first.f
  rw [if_pos (by rw [bx_size_drop]; omega), bx_drop, hv]
theorem wr64 (a : Int) (h0 : -9223372036854775808 ≤ a) (h1 : a < 9223372036854775808) : wrap64 a = a := by unfold wrap64; omega
theorem w64n (a b : Nat) (h : a + b ≤ 20000) : wrap64 ((a : Int) + (b : Int)) = ((a + b : Nat) : Int) := by rw [wr64 _ (by omega) (by omega)]; omega
theorem tokens_l0 (s : ByteArray) (hs : s.size ≤ 4096) : ∀ (f a : Nat) (acc : List S32), a ≤ s.size → s.size - a < f → acc.length + (s.size - a) ≤ 5000 →
    P.lex_Tokens.l0 f s acc ((a + runN blankB (s.data.toList.drop a) : Nat) : Int) = match toksP f a (s.data.toList.drop a) with | .inl b => some ([], (b : Int), 200) | .inr ts => some (acc ++ ts.map tkS, 0, 0)
  | 0, a, acc, ha, hf, hc => by omega
  | f + 1, a, acc, ha, hf, hc => by
    obtain ⟨b, hb⟩ : ∃ b, runN blankB (s.data.toList.drop a) = b := ⟨_, rfl⟩
    have hble := runN_le blankB (s.data.toList.drop a)
    rw [hb, List.length_drop, ← Lib.size_eq] at hble
    rw [hb, toksP, hb, P.lex_Tokens.l0, List.drop_drop]
    by_cases he : a + b < s.size
    · have hne : s.data.toList.drop (a + b) ≠ [] := fun h => by
        have := List.drop_eq_nil_iff.1 h
        rw [← Lib.size_eq] at this
        omega
      obtain ⟨⟨k, x, n, ok⟩, hv⟩ : ∃ v, firstP (s.data.toList.drop (a + b)) = v := ⟨_, rfl⟩
      rw [if_pos (by omega), if_pos (by omega), if_pos (by omega), Int.toNat_natCast, first_at s (a + b) hs he hv, if_neg hne, hv]
      simp only [Option.bind_some]
      cases ok with
      | false => rfl
      | true =>
        have hok := firstP_ok hv
        have hpos := hok.pos
        have hle := hok.le
        rw [List.length_drop, ← Lib.size_eq] at hle
        simp only [if_true]
        have hrle := runN_le blankB (s.data.toList.drop (a + b + n))
        rw [List.length_drop, ← Lib.size_eq] at hrle
        have g1 : acc.length < 4398046511104 := by omega
        have g2 : (0 : Int) ≤ ((a + b + n : Nat) : Int) := by omega
        have g3 : ((a + b + n : Nat) : Int) ≤ (s.size : Int) := by omega
        have g4 : a + b + n ≤ 20000 := by omega
        have g5 : a + b + n + runN blankB (s.data.toList.drop (a + b + n)) ≤ 20000 := by omega
        have hIH := tokens_l0 s hs f (a + b + n) (acc ++ [(⟨k, x, ((a + b : Nat) : Int)⟩ : S32)]) (by omega) (by omega) (by rw [List.length_append]; simp only [List.length_cons, List.length_nil]; omega)
        have hw : wrap64 (((a + b : Nat) : Int) + (n : Int)) = ((a + b + n : Nat) : Int) := w64n (a + b) n g4
        have hw2 : wrap64 (((a + b + n : Nat) : Int) + ((runN blankB (s.data.toList.drop (a + b + n)) : Nat) : Int)) = ((a + b + n + runN blankB (s.data.toList.drop (a + b + n)) : Nat) : Int) := w64n (a + b + n) (runN blankB (s.data.toList.drop (a + b + n))) g5
        rw [hw]
        refine (if_pos g1).trans ((if_pos g2).trans ((if_pos g3).trans ?_))
        rw [Int.toNat_natCast, blank_at s _ hs]
        simp only [Option.bind_some]
        rw [hw2, hIH, List.drop_drop]
        cases toksP f (a + b + n) (s.data.toList.drop (a + b + n)) with
        | inl c => rfl
        | inr ts => simp [tkS]
    · have hz : s.data.toList.drop (a + b) = [] := List.drop_eq_nil_iff.2 (by rw [← Lib.size_eq]; omega)
      rw [if_neg (by omega), if_pos hz]
      simp
theorem tokens_f (s : ByteArray) (hs : s.size ≤ 4096) (k : Nat) (hk : s.size < k) : P.lex_Tokens.f k s = match toksP k 0 s.data.toList with | .inl b => some ([], (b : Int), 200) | .inr ts => some (ts.map tkS, 0, 0) := by
  unfold P.lex_Tokens.f
  rw [if_neg (by omega)]
  have h0 := blank_at s 0 hs
  rw [show s.extract 0 s.size = s from ByteArray.extract_zero_size, List.drop_zero] at h0
  have h1 := tokens_l0 s hs k 0 [] (Nat.zero_le _) (by omega) (by simp; omega)
  rw [List.drop_zero, Nat.zero_add] at h1
  rw [h0]
  simp only [Option.bind_some]
  rw [h1]
  cases toksP k 0 s.data.toList with
  | inl b => rfl
  | inr ts => rfl
theorem tokens_big (s : ByteArray) (hs : 4096 < s.size) (k : Nat) : P.lex_Tokens.f k s = some ([], 0, 5) := by
  unfold P.lex_Tokens.f
  rw [if_pos (by omega)]
theorem toks_bad (s : List UInt8) : ∀ (f a b : Nat), a ≤ s.length → s.length - a < f → toksP f a (s.drop a) = .inl b → b < s.length
  | 0, a, b, ha, hf, h => by omega
  | f + 1, a, b, ha, hf, h => by
    obtain ⟨c, hc⟩ : ∃ c, runN blankB (s.drop a) = c := ⟨_, rfl⟩
    rw [toksP, hc, List.drop_drop] at h
    obtain ⟨⟨k, x, n, ok⟩, hv⟩ : ∃ v, firstP (s.drop (a + c)) = v := ⟨_, rfl⟩
    rw [hv] at h
    by_cases he : s.drop (a + c) = []
    · rw [if_pos he] at h; cases h
    · rw [if_neg he] at h
      have hz : a + c < s.length := Nat.lt_of_not_le fun h => he (List.drop_eq_nil_iff.2 h)
      cases ok with
      | false => simp at h; omega
      | true =>
        have hok := firstP_ok hv
        have hpos := hok.pos
        have hle := hok.le
        rw [List.length_drop] at hle
        simp only [if_true] at h
        rw [List.drop_drop] at h
        cases hr : toksP f (a + c + n) (s.drop (a + c + n)) with
        | inl d =>
          rw [hr] at h
          cases h
          exact toks_bad s f (a + c + n) _ (by omega) (by omega) hr
        | inr ts => rw [hr] at h; cases h
end Go.Proofs.YtioofhilohmfbaaGreatDoor
end
section
set_option linter.unusedVariables false
set_option linter.unusedSimpArgs false
namespace Go.Proofs.YtioofhilohmfbaaGreatDoor
open Go Go.RowKit Go.Lib Go.Proofs.YtioofhilohmfbaaGreatDoorW.PrintWords Go.Proofs.YtioofhilohmfbaaGreatDoorW.PrintLast Go.Proofs.YtioofhilohmfbaaGreatDoorW.PrintMore Go.Proofs.YtioofhilohmfbaaGreatDoor.P
theorem blank_all256 : ∀ c : Fin 256, ([32, 9, 10, 13] : List UInt8).contains (UInt8.ofNat c.val) = blankB (UInt8.ofNat c.val) := by decide +kernel
theorem blank_contains (c : UInt8) : ([32, 9, 10, 13] : List UInt8).contains c = blankB c := by
  have := blank_all256 ⟨c.toNat, c.toNat_lt⟩
  simp only [UInt8.ofNat_toNat] at this
  exact this
theorem cutOk_blanks : cutOk (⟨#[32, 9, 10, 13]⟩ : ByteArray) := by decide +kernel
theorem cut_len {s : List UInt8} : ∀ (ts : List Tk) (a : Nat), a ≤ s.length → CutP s a ts → ts.length ≤ s.length - a
  | [], a, ha, h => Nat.zero_le _
  | t :: ts, a, ha, h => by
    obtain ⟨n, h1, h2, h3, h4, h5, h6⟩ := cut_one h
    have hp := h1.pos
    have h7 := cut_len ts (t.2.2 + n) (by omega) h6
    have h8 := h.1
    have h9 := h.2.1
    rw [List.length_cons]
    omega
theorem slice_list (s : ByteArray) (a b : Nat) : (s.extract a b).data.toList = (s.data.toList.drop a).take (b - a) := by rw [bx_extract, List.drop_take]
/-- What is left of a token's place when the blanks behind it are gone. -/
theorem own_of {s : ByteArray} {a : Nat} {t : Tk} {ts : List Tk} (hs : s.size ≤ 4096) (h : CutP s.data.toList a (t :: ts)) : ∃ n, TokOk (s.data.toList.drop t.2.2) t.1 t.2.1 n ∧ t.2.2 + n ≤ endP s.data.toList ts ∧ endP s.data.toList ts ≤ s.size ∧ P.strings_TrimRight.f (s.extract t.2.2 (endP s.data.toList ts)) (⟨#[32, 9, 10, 13]⟩ : ByteArray) = some (mkB ((s.data.toList.drop t.2.2).take n)) := by
  obtain ⟨n, h1, h2, h3, h4, h5, h6⟩ := cut_one h
  refine ⟨n, h1, h3, by rw [Lib.size_eq]; exact h4, ?_⟩
  unfold P.strings_TrimRight.f
  rw [if_pos ⟨by rw [ByteArray.size_extract]; omega, cutOk_blanks⟩]
  have e : trimRightS ((s.data.toList.drop t.2.2).take (endP s.data.toList ts - t.2.2)) [32, 9, 10, 13] = ((s.data.toList.drop t.2.2).take (endP s.data.toList ts - t.2.2)).take n := by
    refine trimRightS_take _ _ n ?_ (fun j b hj hb => ?_) (fun b hp hb => ?_)
    · rw [List.length_take, List.length_drop]; omega
    · rw [blank_contains]
      refine h5 b ?_
      have hb2 : (((s.data.toList.drop t.2.2).take (endP s.data.toList ts - t.2.2)).drop n)[j - n]? = some b := by
        rw [List.getElem?_drop, show n + (j - n) = j by omega]
        exact hb
      exact List.mem_of_getElem? hb2
    · rw [blank_contains]
      refine h1.last b ?_
      rw [List.getElem?_take_of_lt (by omega)] at hb
      exact hb
  rw [slice_list]
  rw [show (⟨#[32, 9, 10, 13]⟩ : ByteArray).data.toList = [32, 9, 10, 13] from rfl, e, List.take_take, Nat.min_eq_left (by omega)]
theorem trim_ahead {s : ByteArray} {ts : List Tk} (hs : s.size ≤ 4096) (h : CutP s.data.toList 0 ts) : P.strings_Trim.f (s.extract 0 (endP s.data.toList ts)) (⟨#[32, 9, 10, 13]⟩ : ByteArray) = some ⟨#[]⟩ := by
  obtain ⟨h1, h2, h3⟩ := cut_ahead (Nat.zero_le _) h
  unfold P.strings_Trim.f
  rw [if_pos ⟨by rw [ByteArray.size_extract]; omega, cutOk_blanks⟩, slice_list]
  have e : trimRightS ((s.data.toList.drop 0).take (endP s.data.toList ts - 0)) [32, 9, 10, 13] = [] := by
    rw [trimRightS_take _ _ 0 (Nat.zero_le _) (fun j b _ hb => ?_) (fun b hp => absurd hp (by decide)), List.take_zero]
    rw [blank_contains]
    exact h3 b (List.mem_of_getElem? hb)
  unfold trimS
  rw [show (⟨#[32, 9, 10, 13]⟩ : ByteArray).data.toList = [32, 9, 10, 13] from rfl, e]
  rfl
theorem rd_tk (ts : List Tk) (i : Nat) (t : Tk) (h : ts[i]? = some t) : rd_T32 (ts.map tkS) (i : Int) = tkS t := by
  unfold rd_T32
  rw [Int.toNat_natCast, List.getD_eq_getElem?_getD, List.getElem?_map, h]
  rfl
end Go.Proofs.YtioofhilohmfbaaGreatDoor
end
section
set_option linter.unusedVariables false
set_option linter.unusedSimpArgs false
namespace Go.Proofs.YtioofhilohmfbaaGreatDoor
open Go Go.RowKit Go.Lib Go.Proofs.YtioofhilohmfbaaGreatDoorW.PrintWords Go.Proofs.YtioofhilohmfbaaGreatDoorW.PrintLast Go.Proofs.YtioofhilohmfbaaGreatDoorW.PrintMore Go.Proofs.YtioofhilohmfbaaGreatDoor.P
theorem num_own {l : List UInt8} {n : Nat} (hl : l.length ≤ 4096) (h : ∀ c ∈ l.take n, numB c = true) : numOk (mkB (l.take n)) := by
  refine ⟨?_, ?_, ?_⟩
  · rw [Lib.size_eq]
    show (l.take n).length ≤ _
    rw [List.length_take]
    omega
  · exact List.all_eq_true.2 fun c hc => decide_eq_true (num_small c (h c hc)).1
  · show Lib.hasPrefix (l.take n) [45] = false
    cases hb : Lib.hasPrefix (l.take n) [45] with
    | false => rfl
    | true =>
      obtain ⟨r, hr⟩ := (pre_iff _ _).1 hb
      have := (num_small 45 (h 45 (by rw [← hr]; simp))).2.1
      exact absurd rfl this
theorem all_l0 (s : ByteArray) (hs : s.size ≤ 4096) (ts : List Tk) (hc : CutP s.data.toList 0 ts) (K : Nat) (hA : ∀ k, K ≤ k → P.driftnetlaw20_awake.f k = some true) : ∀ (i k : Nat), i ≤ ts.length → 2 * i + K < k → P.driftnetlaw20_LexAll.l0 k s (ts.map tkS) ((endP s.data.toList (ts.drop i) : Nat) : Int) ((i : Int) - 1) = some true
  | i, 0, hi, hk => by omega
  | 0, k + 1, hi, hk => by
    obtain ⟨h1, h2, h3⟩ := cut_ahead (Nat.zero_le _) hc
    rw [← Lib.size_eq] at h2
    have ht := trim_ahead hs hc
    rw [List.drop_zero, P.driftnetlaw20_LexAll.l0, if_neg (by omega), if_pos (by omega), if_pos (by omega), Int.toNat_natCast, ht]
    simp only [Option.bind_some]
    rw [if_pos (by rw [ByteArray.toList_eq]), hA k (by omega)]
    rfl
  | i + 1, 1, hi, hk => by omega
  | i + 1, k + 2, hi, hk => by
    obtain ⟨t, ht⟩ : ∃ t, ts[i]? = some t := ⟨_, List.getElem?_eq_getElem (by omega)⟩
    have hd : ts.drop i = t :: ts.drop (i + 1) := by
      rw [List.getElem?_eq_some_iff] at ht
      obtain ⟨h, e⟩ := ht
      rw [← e, List.drop_eq_getElem_cons h]
    obtain ⟨a', ha', hcut⟩ := cut_drop ts 0 i (Nat.zero_le _) hc (by omega)
    rw [hd] at hcut
    obtain ⟨n, hok, hle, hes, hown⟩ := own_of hs hcut
    have hpos := hok.pos
    have hlen := cut_len ts 0 (Nat.zero_le _) hc
    rw [← Lib.size_eq] at hlen
    have hIH := all_l0 s hs ts hc K hA i k (by omega) (by omega)
    rw [hd] at hIH
    have he2 : endP s.data.toList (t :: ts.drop (i + 1)) = t.2.2 := rfl
    rw [he2] at hIH
    obtain ⟨e, hee⟩ : ∃ e, endP s.data.toList (ts.drop (i + 1)) = e := ⟨_, rfl⟩
    rw [hee] at hle hes hown ⊢
    obtain ⟨kk, x, p⟩ := t
    simp only at hle hok hown hpos hIH
    have hr : rd_T32 (ts.map tkS) (((i + 1 : Nat) : Int) - 1) = ⟨kk, x, (p : Int)⟩ := by
      rw [show (((i + 1 : Nat) : Int) - 1) = (i : Int) by omega]
      exact rd_tk ts i _ ht
    have hml : ((ts.map tkS).length : Int) = (ts.length : Int) := by rw [List.length_map]
    have g1 : (((i + 1 : Nat) : Int) - 1) ≥ 0 := by omega
    have g2 : (0 : Int) ≤ (((i + 1 : Nat) : Int) - 1) := by omega
    have g3 : (((i + 1 : Nat) : Int) - 1) < (ts.length : Int) := by omega
    have g4 : ¬ ((p : Int) < 0) := by omega
    have g5 : ¬ ((p : Int) ≥ (e : Int)) := by omega
    have g6 : ¬ ((p : Int) > (s.size : Int)) := by omega
    have g7 : (0 : Int) ≤ (p : Int) := by omega
    have g8 : (p : Int) ≤ (e : Int) := by omega
    have g9 : (e : Int) ≤ (s.size : Int) := by omega
    have gw : ((i + 1 : Nat) : Int) - 1 = (i : Int) := by omega
    have gwb : -9223372036854775808 ≤ (i : Int) - 1 ∧ (i : Int) - 1 < 9223372036854775808 := by omega
    have hw : wrap64 ((((i + 1 : Nat) : Int) - 1) - 1) = (i : Int) - 1 := by rw [gw]; exact wr64 _ gwb.1 gwb.2
    have hlen2 : (s.data.toList.drop p).length ≤ 4096 := by rw [List.length_drop, ← Lib.size_eq]; omega
    rw [P.driftnetlaw20_LexAll.l0, hml, hr]
    refine (if_pos g1).trans ((if_pos g2).trans ((if_pos g3).trans ((if_neg g4).trans ((if_neg g5).trans ?_))))
    rw [decide_eq_false g6, P.driftnetlaw20_LexAll.j1]
    refine (if_neg Bool.false_ne_true).trans ((if_pos g7).trans ((if_pos g8).trans ((if_pos g9).trans ?_)))
    rw [Int.toNat_natCast, Int.toNat_natCast, hown]
    simp only [Option.bind_some]
    rw [hw]
    clear hw gwb gw g1 g2 g3 g4 g5 g6 g7 g8 g9 hr hml
    by_cases h2 : kk = 2
    · rw [if_pos h2]
      have hu := hok.text h2
      have hsz : (mkB ((s.data.toList.drop p).take n)).size ≤ 17592186044416 := by
        rw [Lib.size_eq]
        show ((s.data.toList.drop p).take n).length ≤ _
        rw [List.length_take]
        omega
      have hq : P.quote_Unquote.f (mkB ((s.data.toList.drop p).take n)) = some (x, 0) := by
        unfold P.quote_Unquote.f
        rw [if_pos hsz, hu]
        exact congrArg some (Prod.ext (bx_ext rfl) rfl)
      rw [hq]
      simp only [Option.bind_some, if_true]
      exact hIH
    · rw [if_neg h2]
      have hx := hok.own h2
      by_cases h3 : kk = 3
      · rw [if_pos h3]
        obtain ⟨hne, hnum⟩ := hok.num h3
        have hn : P.measure_Number.f (mkB ((s.data.toList.drop p).take n)) = some (numV (mkB ((s.data.toList.drop p).take n))) := by
          unfold P.measure_Number.f
          rw [if_pos (num_own hlen2 hnum)]
        rw [hn]
        simp only [Option.bind_some]
        rw [if_neg hne, if_pos (by rw [hx])]
        exact hIH
      · rw [if_neg h3, if_pos (by rw [hx])]
        have hne : ¬ (mkB ((s.data.toList.drop p).take n)).toList = ([] : List UInt8) := fun h => by
          rw [ByteArray.toList_eq] at h
          have h : ((s.data.toList.drop p).take n) = [] := h
          have h2 := congrArg List.length h
          rw [List.length_take] at h2
          have := hok.le
          simp only [List.length_nil] at h2
          omega
        rw [if_neg hne]
        exact hIH
theorem all_true (s : ByteArray) (K : Nat) (hA : ∀ k, K ≤ k → P.driftnetlaw20_awake.f k = some true) : P.driftnetlaw20_LexAll.f (K + 20000) s = some true := by
  have hAw : ∀ k, K ≤ k → (P.driftnetlaw20_awake.f k).bind (fun t => some t) = some true := fun k hk => by rw [hA k hk]; rfl
  unfold P.driftnetlaw20_LexAll.f
  by_cases hs : s.size ≤ 4096
  · rw [tokens_f s hs _ (by omega)]
    cases ht : toksP (K + 20000) 0 s.data.toList with
    | inl b =>
      have hb := toks_bad s.data.toList (K + 20000) 0 b (Nat.zero_le _) (by rw [← Lib.size_eq]; omega) (by rw [List.drop_zero]; exact ht)
      rw [← Lib.size_eq] at hb
      simp only [Option.bind_some]
      rw [if_neg (by decide), if_neg (by decide), if_pos trivial, if_pos (by omega), if_pos (by omega)]
      exact (if_pos rfl).trans (hAw _ (by omega))
    | inr ts =>
      have hcut := toks_cut s.data.toList (K + 20000) 0 ts (Nat.zero_le _) (by rw [List.drop_zero]; exact ht)
      have hlen := cut_len ts 0 (Nat.zero_le _) hcut
      rw [← Lib.size_eq] at hlen
      have h0 := all_l0 s hs ts hcut K hA ts.length (K + 20000) (Nat.le_refl _) (by omega)
      rw [List.drop_length, show endP s.data.toList [] = s.data.toList.length from rfl, ← Lib.size_eq] at h0
      simp only [Option.bind_some, List.length_map]
      rw [if_pos trivial, wr64 _ (by omega) (by omega)]
      exact h0
  · rw [tokens_big s (by omega)]
    simp only [Option.bind_some]
    rw [if_neg (by decide), if_pos trivial, if_pos (by omega), if_pos trivial]
    exact (if_pos rfl).trans (hAw _ (by omega))
end Go.Proofs.YtioofhilohmfbaaGreatDoor
end
section
set_option linter.unusedVariables false
namespace Go.Proofs.YtioofhilohmfbaaGreatDoor
open Go Go.RowKit Go.Proofs.YtioofhilohmfbaaGreatDoorW.PrintWords
theorem awake_low : P.driftnetlaw20_awake.f 60 = some true := by decide +kernel
theorem awake_up : ∀ d : Nat, P.driftnetlaw20_awake.f (60 + d) = some true
  | 0 => awake_low
  | d + 1 => P.driftnetlaw20_awake.mono (60 + d) true (awake_up d)
theorem awake_true (k : Nat) (hk : 60 ≤ k) : P.driftnetlaw20_awake.f k = some true := by
  obtain ⟨d, rfl⟩ : ∃ d, k = 60 + d := ⟨k - 60, by omega⟩
  exact awake_up d
end Go.Proofs.YtioofhilohmfbaaGreatDoor
end
section
namespace Go.Proofs.YtioofhilohmfbaaGreatDoor
open Go
theorem lexAll_pure : P.driftnetlaw20_LexAll.Pure := fun a0 _ => ⟨60 + 20000, all_true a0 60 awake_true⟩
theorem lexAll_card : Rows.LexAllCardSaid := lexAll.card_of lexAll_pure
#print axioms lexAll_card
end Go.Proofs.YtioofhilohmfbaaGreatDoor
end
