import Derived.Test.YtnmofpefofkoeaaGreatDoorF0
import Derived.Test.YtnmofpefofkoeaaGreatDoorParse
namespace Go.Proofs.YtnmofpefofkoeaaGreatDoor.P
open Go.RowKit Go.Proofs.YtnmofpefofkoeaaGreatDoorW.PrintWords Go.Proofs.YtnmofpefofkoeaaGreatDoorW.PrintLast Go.Proofs.YtnmofpefofkoeaaGreatDoorW.PrintMore
attribute [local go_sem] max2_int min2_int max_two min_two max_three min_three max_four min_four leq_str
set_option linter.unusedVariables false
set_option linter.unusedSimpArgs false

/-! ### driftnetlaw16_tells: function 13 -/
mutual
def driftnetlaw16_tells.j0 : Nat → List ByteArray → List (S35) → Bool → Option (Bool)
  | 0, _, _, _ => none
  | k + 1, x1, x5, x22 => if x22 = true then (some false) else (driftnetlaw16_tells.l0 k x1 x5 0)
def driftnetlaw16_tells.l0 : Nat → List ByteArray → List (S35) → Int → Option (Bool)
  | 0, _, _, _ => none
  | k + 1, x1, x5, x7 => if x7 < (x5.length : Int) then (if 0 ≤ x7 then (if 0 ≤ (wrap64 (2 * x7)) then (if (wrap64 (2 * x7)) < (x1.length : Int) then (if ((rd_T35 x5 x7).f0).toList = (rdOf ByteArray.empty x1 (wrap64 (2 * x7))).toList then (if 0 ≤ (wrap64 ((wrap64 (2 * x7)) + 1)) then (if (wrap64 ((wrap64 (2 * x7)) + 1)) < (x1.length : Int) then (if ((rd_T35 x5 x7).f1).toList = (rdOf ByteArray.empty x1 (wrap64 ((wrap64 (2 * x7)) + 1))).toList then (driftnetlaw16_tells.l0 k x1 x5 (wrap64 (x7 + 1))) else (some false)) else (none)) else (none)) else (some false)) else (none)) else (none)) else (none)) else (some true)
end
def driftnetlaw16_tells.f (k : Nat) (a0 : ByteArray) (l1 : List ByteArray) : Option (Bool) := (logfmt_Parse.f a0).bind fun bt1 => (if bt1.2 = true then (driftnetlaw16_tells.j0 k l1 bt1.1 ((wrap64 (2 * (bt1.1.length : Int))) != (l1.length : Int))) else (driftnetlaw16_tells.j0 k l1 bt1.1 true))
theorem driftnetlaw16_tells.mono_l : ∀ k, (∀ y0 y1 y2, LeO (driftnetlaw16_tells.j0 k y0 y1 y2) (driftnetlaw16_tells.j0 (k + 1) y0 y1 y2)) ∧ (∀ y0 y1 y2, LeO (driftnetlaw16_tells.l0 k y0 y1 y2) (driftnetlaw16_tells.l0 (k + 1) y0 y1 y2))
  | 0 => ⟨fun _ _ _ r h => by simp [driftnetlaw16_tells.j0] at h, fun _ _ _ r h => by simp [driftnetlaw16_tells.l0] at h⟩
  | k + 1 => by
    obtain ⟨ih0, ih1⟩ := driftnetlaw16_tells.mono_l k
    refine ⟨?_, ?_⟩
    · intro y0 y1 y2
      unfold driftnetlaw16_tells.j0
      repeat' first
      | (with_reducible exact ih0 _ _ _)
      | (with_reducible exact ih1 _ _ _)
      | (with_reducible exact LeO.refl _)
      | (with_reducible exact LeO.none _)
      | (with_reducible refine LeO.ite ?_ ?_)
      | (with_reducible refine LeO.bind ?_ (fun _ => ?_))
      | exact ih0 _ _ _
      | exact ih1 _ _ _
      | exact LeO.none _
      | refine LeO.ite ?_ ?_
      | refine LeO.bind ?_ (fun _ => ?_)
    · intro y0 y1 y2
      unfold driftnetlaw16_tells.l0
      repeat' first
      | (with_reducible exact ih0 _ _ _)
      | (with_reducible exact ih1 _ _ _)
      | (with_reducible exact LeO.refl _)
      | (with_reducible exact LeO.none _)
      | (with_reducible refine LeO.ite ?_ ?_)
      | (with_reducible refine LeO.bind ?_ (fun _ => ?_))
      | exact ih0 _ _ _
      | exact ih1 _ _ _
      | exact LeO.none _
      | refine LeO.ite ?_ ?_
      | refine LeO.bind ?_ (fun _ => ?_)
theorem driftnetlaw16_tells.mono : ∀ a0 a1 k, LeO (driftnetlaw16_tells.f k a0 a1) (driftnetlaw16_tells.f (k + 1) a0 a1) := by
  intro a0 a1 k
  obtain ⟨ih0, ih1⟩ := driftnetlaw16_tells.mono_l k
  unfold driftnetlaw16_tells.f
  repeat' first
      | (with_reducible exact ih0 _ _ _)
      | (with_reducible exact ih1 _ _ _)
      | (with_reducible exact LeO.refl _)
      | (with_reducible exact LeO.none _)
      | (with_reducible refine LeO.ite ?_ ?_)
      | (with_reducible refine LeO.bind ?_ (fun _ => ?_))
      | exact ih0 _ _ _
      | exact ih1 _ _ _
      | exact LeO.none _
      | refine LeO.ite ?_ ?_
      | refine LeO.bind ?_ (fun _ => ?_)
set_option maxHeartbeats 8000000 in
set_option maxRecDepth 100000 in
theorem driftnetlaw16_tells.calls (k : Nat) (a0 : ByteArray) (A1 : Option Addr) (c1 : Nat) (l1 : List ByteArray) (r : Bool) (w : World) (hr1 : Kd.C Kd.string w A1 l1.length l1) (hc1 : l1.length ≤ c1) (hG : Aside0 (G w)) (h : driftnetlaw16_tells.f k a0 l1 = some r) :
    Calls Tryz.prog 13 #[.string a0, .slice A1 l1.length c1] w fun e w' => e = .returned (.bool r) ∧ Below w.heap.size w w' := by
  have HR1 := Aside0.mk hr1
  have HC1 := Aside0.mk hc1
  clear hr1 hc1
  have HB := Aside0.mk (Below.refl w.heap.size w)
  have H : ((logfmt_Parse.f a0).bind fun bt1 => (if bt1.2 = true then (driftnetlaw16_tells.j0 k l1 bt1.1 ((wrap64 (2 * (bt1.1.length : Int))) != (l1.length : Int))) else (driftnetlaw16_tells.j0 k l1 bt1.1 true))) = some r := h
  clear h
  replace H := Option.bind_eq_some_iff.mp H
  obtain ⟨⟨t1, t2⟩, A30, H⟩ := H
  replace H : (if t2 = true then (driftnetlaw16_tells.j0 k l1 t1 ((wrap64 (2 * (t1.length : Int))) != (l1.length : Int))) else (driftnetlaw16_tells.j0 k l1 t1 true)) = some r := H
  have A3 := Aside0.mk A30
  clear A30
  have HC4 := Aside0.mk H
  clear H
  go_enter Tryz.func13, Tryz.ntmps13
  go_upto_region 2 with (first | (go_at_call 8; (with_reducible refine (logfmt_Parse.calls a0 t1 t2 _ ?side1 A3.out).mono ?_); (case side1 => exact G.at hG.out (by repeat (first | (with_reducible first | exact HB.out | apply below_alloc | apply pw_below_drewN | apply below_drew1) | exact HB.out))); rintro e w5 ⟨v3, rfl, ho0, hb⟩; have n0_ := Aside0.mk (Kd.R_lower ho0 (below_size (by repeat (first | (with_reducible first | exact HB.out | apply below_alloc | apply pw_below_drewN | apply below_drew1) | exact HB.out)))); have n1_ := Aside0.mk (below_step (by repeat (first | (with_reducible first | exact HB.out | apply below_alloc | apply pw_below_drewN | apply below_drew1) | exact HB.out)) hb); clear HB; have HO4 := n0_; have HB := n1_; clear n0_ n1_; (try clear hb); (try clear hb2); (try clear hk); (try clear hi); (try clear ho0)))
  repeat (go_quiet (first | (go_at_call 8; (with_reducible refine (logfmt_Parse.calls a0 t1 t2 _ ?side1 A3.out).mono ?_); (case side1 => exact G.at hG.out (by repeat (first | (with_reducible first | exact HB.out | apply below_alloc | apply pw_below_drewN | apply below_drew1) | exact HB.out))); rintro e w5 ⟨v3, rfl, ho0, hb⟩; have n0_ := Aside0.mk (Kd.R_lower ho0 (below_size (by repeat (first | (with_reducible first | exact HB.out | apply below_alloc | apply pw_below_drewN | apply below_drew1) | exact HB.out)))); have n1_ := Aside0.mk (below_step (by repeat (first | (with_reducible first | exact HB.out | apply below_alloc | apply pw_below_drewN | apply below_drew1) | exact HB.out)) hb); clear HB; have HO4 := n0_; have HB := n1_; clear n0_ n1_; (try clear hb); (try clear hb2); (try clear hk); (try clear hi); (try clear ho0))); go_upto_region 2 with (first | (go_at_call 8; (with_reducible refine (logfmt_Parse.calls a0 t1 t2 _ ?side1 A3.out).mono ?_); (case side1 => exact G.at hG.out (by repeat (first | (with_reducible first | exact HB.out | apply below_alloc | apply pw_below_drewN | apply below_drew1) | exact HB.out))); rintro e w5 ⟨v3, rfl, ho0, hb⟩; have n0_ := Aside0.mk (Kd.R_lower ho0 (below_size (by repeat (first | (with_reducible first | exact HB.out | apply below_alloc | apply pw_below_drewN | apply below_drew1) | exact HB.out)))); have n1_ := Aside0.mk (below_step (by repeat (first | (with_reducible first | exact HB.out | apply below_alloc | apply pw_below_drewN | apply below_drew1) | exact HB.out)) hb); clear HB; have HO4 := n0_; have HB := n1_; clear n0_ n1_; (try clear hb); (try clear hb2); (try clear hk); (try clear hi); (try clear ho0))))
  (try simp only [Act.put, List.setIfInBounds_toArray, List.set_cons_zero, List.set_cons_succ])
  go_cut [22] (fun v22 wc => ∃ (kq : Nat) (x22_3 : Bool), v22 = .bool x22_3 ∧ Aside0 (driftnetlaw16_tells.j0 kq l1 t1 x22_3 = some r) ∧ Aside0 (kq ≤ k) ∧ Aside0 (Kd.R k35 35 wc w.heap.size (fun _ => True) v3 t1) ∧ Aside0 (Below w.heap.size w wc))
  case first =>
    have H := HC4.out
    clear HC4
    by_cases c6 : t2 = true
    · subst c6
      have H1 : (driftnetlaw16_tells.j0 k l1 t1 ((wrap64 (2 * (t1.length : Int))) != (l1.length : Int))) = some r := by rw [if_pos rfl] at H; exact H
      clear H
      have H := H1
      clear H1
      have H' := Aside0.mk H
      clear H
      obtain ⟨Ao7, co7, eo7⟩ := Kd.R_slice HO4.out
      subst eo7
      go_wp2
      repeat (go_quiet (fail); try go_wp2)
      go_meet
      case rel => exact ⟨_, (((wrap64 (2 * (t1.length : Int))) != (l1.length : Int))), (by first | rfl | (simp; done) | (simp [*]; done)), H', ⟨by first | omega | exact Nat.le_refl _⟩, ⟨by (with_reducible repeat (first | apply Kd.R_alloc | apply Kd.R_drewN | apply Kd.R_drew)); exact HO4.out⟩, ⟨by repeat (first | (with_reducible first | exact HB.out | apply below_alloc | apply pw_below_drewN | apply below_drew1) | exact HB.out)⟩⟩
    · replace c6 := Bool.eq_false_iff.mpr c6
      subst c6
      have H1 : (driftnetlaw16_tells.j0 k l1 t1 true) = some r := by rw [if_neg (show ¬ (false = true) by decide)] at H; exact H
      clear H
      have H := H1
      clear H1
      have H' := Aside0.mk H
      clear H
      go_wp2
      repeat (go_quiet (fail); try go_wp2)
      go_meet
      case rel => exact ⟨_, (true), (by first | rfl | (simp; done) | (simp [*]; done)), H', ⟨by first | omega | exact Nat.le_refl _⟩, ⟨by (with_reducible repeat (first | apply Kd.R_alloc | apply Kd.R_drewN | apply Kd.R_drew)); exact HO4.out⟩, ⟨by repeat (first | (with_reducible first | exact HB.out | apply below_alloc | apply pw_below_drewN | apply below_drew1) | exact HB.out)⟩⟩
  case rest =>
    clear HC4
    try clear c1
    try clear p2
    try clear c6
    try clear p6
    obtain ⟨kq, x22_3, rfl, HA, HJ3, HO_5, HB⟩ := hcut
    cases kq with
    | zero => exact absurd HA.out (by simp [driftnetlaw16_tells.j0])
    | succ kj3 =>
      have H := HA.out
      clear HA
      simp only [driftnetlaw16_tells.j0] at H
      by_cases c8 : x22_3 = true
      · subst c8
        have H1 : (some false) = some r := by rw [if_pos rfl] at H; exact H
        clear H
        have H := H1
        clear H1
        obtain rfl := Option.some.inj H
        go_wp2
        repeat (go_quiet (fail); try go_wp2)
        go_ret
        exact ⟨by first | rfl | (simp [errW_none, errW_some] <;> rfl) | (simp [*, errW_none, errW_some] <;> rfl), by repeat (first | (with_reducible first | exact HB.out | apply below_alloc | apply pw_below_drewN | apply below_drew1) | exact HB.out)⟩
      · replace c8 := Bool.eq_false_iff.mpr c8
        subst c8
        have H1 : (driftnetlaw16_tells.l0 kj3 l1 t1 0) = some r := by rw [if_neg (show ¬ (false = true) by decide)] at H; exact H
        clear H
        have H := H1
        clear H1
        have H' := Aside0.mk H
        clear H
        go_wp2
        repeat (go_quiet (fail); try go_wp2)
        go_loopg [7] kj3 (fun kq v7 w' => ∃ (x7_2 : Int), v7 = .int .i64 x7_2 ∧ Aside0 (driftnetlaw16_tells.l0 kq l1 t1 x7_2 = some r) ∧ Aside0 (kq ≤ kj3) ∧ Aside0 (Kd.R k35 35 w' w.heap.size (fun _ => True) v3 t1) ∧ Aside0 (Below w.heap.size w w'))
        case atStart => exact ⟨(0), (by first | rfl | (simp; done) | (simp [*]; done)), H', ⟨Nat.le_refl _⟩, ⟨by (with_reducible repeat (first | apply Kd.R_alloc | apply Kd.R_drewN | apply Kd.R_drew)); exact HO_5.out⟩, ⟨by repeat (first | (with_reducible first | exact HB.out | apply below_alloc | apply pw_below_drewN | apply below_drew1) | exact HB.out)⟩⟩
        case round =>
          clear H'
          try clear c1
          try clear p2
          try clear c6
          try clear p6
          try clear c8
          try clear p2
          try clear p6
          obtain ⟨x7_2, rfl, HA, HK2, HO_5, HB⟩ := hrel
          cases gk with
          | zero => exact absurd HA.out (by simp [driftnetlaw16_tells.l0])
          | succ k2 =>
            have H := HA.out
            clear HA
            simp only [driftnetlaw16_tells.l0] at H
            by_cases c9 : x7_2 < (t1.length : Int)
            · rw [if_pos c9] at H
              have c9b0 : decide (x7_2 < (t1.length : Int)) = true := decide_eq_true c9
              clear c9
              by_cases c10 : 0 ≤ x7_2
              · rw [if_pos c10] at H
                have c10b0 : decide (0 ≤ x7_2) = true := decide_eq_true c10
                clear c10
                obtain ⟨ji11, hji11⟩ : ∃ j_ : Int, (wrap64 (2 * x7_2)) = j_ := ⟨_, rfl⟩
                replace H : (if 0 ≤ (ji11) then (if (ji11) < (l1.length : Int) then (if ((rd_T35 t1 x7_2).f0).toList = (rdOf ByteArray.empty l1 (ji11)).toList then (if 0 ≤ (wrap64 ((ji11) + 1)) then (if (wrap64 ((ji11) + 1)) < (l1.length : Int) then (if ((rd_T35 t1 x7_2).f1).toList = (rdOf ByteArray.empty l1 (wrap64 ((ji11) + 1))).toList then (driftnetlaw16_tells.l0 k2 l1 t1 (wrap64 (x7_2 + 1))) else (some false)) else (none)) else (none)) else (some false)) else (none)) else (none)) = some r := by first | (rw [hji11] at H; exact H) | (simp only [hji11] at H ⊢; exact H)
                have hji11w : (IntKind.i64.wrap (2 * x7_2)) = ji11 := (i64_w _).trans hji11
                by_cases c12 : 0 ≤ (ji11)
                · rw [if_pos c12] at H
                  have c12b0 : decide (0 ≤ (ji11)) = true := decide_eq_true c12
                  clear c12
                  by_cases c13 : (ji11) < (l1.length : Int)
                  · rw [if_pos c13] at H
                    have c13b0 : decide ((ji11) < (l1.length : Int)) = true := decide_eq_true c13
                    clear c13
                    by_cases c14 : ((rd_T35 t1 x7_2).f0).toList = (rdOf ByteArray.empty l1 (ji11)).toList
                    · rw [if_pos c14] at H
                      have c14b0 : (((rd_T35 t1 x7_2).f0).toList == (rdOf ByteArray.empty l1 (ji11)).toList) = true := beq_iff_eq.mpr c14
                      have c14b1 : (((rd_T35 t1 x7_2).f0).toList != (rdOf ByteArray.empty l1 (ji11)).toList) = false := bne_eq_false_iff_eq.mpr c14
                      clear c14
                      obtain ⟨ji15, hji15⟩ : ∃ j_ : Int, (wrap64 ((ji11) + 1)) = j_ := ⟨_, rfl⟩
                      replace H : (if 0 ≤ (ji15) then (if (ji15) < (l1.length : Int) then (if ((rd_T35 t1 x7_2).f1).toList = (rdOf ByteArray.empty l1 (ji15)).toList then (driftnetlaw16_tells.l0 k2 l1 t1 (wrap64 (x7_2 + 1))) else (some false)) else (none)) else (none)) = some r := by first | (rw [hji15] at H; exact H) | (simp only [hji15] at H ⊢; exact H)
                      have hji15w : (IntKind.i64.wrap ((ji11) + 1)) = ji15 := (i64_w _).trans hji15
                      by_cases c16 : 0 ≤ (ji15)
                      · rw [if_pos c16] at H
                        have c16b0 : decide (0 ≤ (ji15)) = true := decide_eq_true c16
                        clear c16
                        by_cases c17 : (ji15) < (l1.length : Int)
                        · rw [if_pos c17] at H
                          have c17b0 : decide ((ji15) < (l1.length : Int)) = true := decide_eq_true c17
                          clear c17
                          by_cases c18 : ((rd_T35 t1 x7_2).f1).toList = (rdOf ByteArray.empty l1 (ji15)).toList
                          · rw [if_pos c18] at H
                            have c18b0 : (((rd_T35 t1 x7_2).f1).toList == (rdOf ByteArray.empty l1 (ji15)).toList) = true := beq_iff_eq.mpr c18
                            have c18b1 : (((rd_T35 t1 x7_2).f1).toList != (rdOf ByteArray.empty l1 (ji15)).toList) = false := bne_eq_false_iff_eq.mpr c18
                            clear c18
                            have H' := Aside0.mk H
                            clear H
                            obtain ⟨Ao19, co19, eo19⟩ := Kd.R_slice HO_5.out
                            subst eo19
                            have p5 : 0 ≤ (x7_2 : Int) := of_decide_eq_true (by first | (with_reducible assumption) | assumption)
                            have q5 : x7_2 < (t1.length : Int) := of_decide_eq_true (by first | (with_reducible assumption) | assumption)
                            obtain ⟨ad5, e5, hx5_0, hx5_1⟩ := at_T35 (Kd.R_reads' HO_5.out).2.2 x7_2 p5 q5
                            cases e5
                            replace p5 := eq_true p5
                            replace q5 := eq_true q5
                            have p6 : 0 ≤ ((ji11) : Int) := of_decide_eq_true (by first | (with_reducible assumption) | assumption)
                            have q6 : (ji11) < (l1.length : Int) := of_decide_eq_true (by first | (with_reducible assumption) | assumption)
                            obtain ⟨ad6, e6, hx6_0⟩ := Kd.at_string HR1.out (ji11) p6 q6
                            cases e6
                            replace hx6_0 := (HB.out.cell (World.block_lt_of_cell? w _ hx6_0)).trans hx6_0
                            replace p6 := eq_true p6
                            replace q6 := eq_true q6
                            have p7 : 0 ≤ (x7_2 : Int) := of_decide_eq_true (by first | (with_reducible assumption) | assumption)
                            have q7 : x7_2 < (t1.length : Int) := of_decide_eq_true (by first | (with_reducible assumption) | assumption)
                            obtain ⟨ad7, e7, hx7_0, hx7_1⟩ := at_T35 (Kd.R_reads' HO_5.out).2.2 x7_2 p7 q7
                            obtain rfl : ad5 = ad7 := (by injection e7)
                            replace p7 := eq_true p7
                            replace q7 := eq_true q7
                            have p8 : 0 ≤ ((ji15) : Int) := of_decide_eq_true (by first | (with_reducible assumption) | assumption)
                            have q8 : (ji15) < (l1.length : Int) := of_decide_eq_true (by first | (with_reducible assumption) | assumption)
                            obtain ⟨ad8, e8, hx8_0⟩ := Kd.at_string HR1.out (ji15) p8 q8
                            obtain rfl : ad6 = ad8 := (by injection e8)
                            replace hx8_0 := (HB.out.cell (World.block_lt_of_cell? w _ hx8_0)).trans hx8_0
                            replace p8 := eq_true p8
                            replace q8 := eq_true q8
                            go_wp2
                            repeat (go_quiet (fail); try go_wp2)
                            go_roundg k2
                            case measure => have := HJ3.out; have := HK2.out; omega
                            case rel => exact ⟨(wrap64 (x7_2 + 1)), (by first | rfl | (simp; done) | (simp [*]; done)), H', ⟨by have := HJ3.out; have := HK2.out; omega⟩, ⟨by (with_reducible repeat (first | apply Kd.R_alloc | apply Kd.R_drewN | apply Kd.R_drew)); exact HO_5.out⟩, ⟨by repeat (first | (with_reducible first | exact HB.out | apply below_alloc | apply pw_below_drewN | apply below_drew1) | exact HB.out)⟩⟩
                          · rw [if_neg c18] at H
                            have c18b0 : (((rd_T35 t1 x7_2).f1).toList == (rdOf ByteArray.empty l1 (ji15)).toList) = false := beq_eq_false_iff_ne.mpr c18
                            have c18b1 : (((rd_T35 t1 x7_2).f1).toList != (rdOf ByteArray.empty l1 (ji15)).toList) = true := bne_iff_ne.mpr c18
                            obtain rfl := Option.some.inj H
                            obtain ⟨Ao20, co20, eo20⟩ := Kd.R_slice HO_5.out
                            subst eo20
                            have p5 : 0 ≤ (x7_2 : Int) := of_decide_eq_true (by first | (with_reducible assumption) | assumption)
                            have q5 : x7_2 < (t1.length : Int) := of_decide_eq_true (by first | (with_reducible assumption) | assumption)
                            obtain ⟨ad5, e5, hx5_0, hx5_1⟩ := at_T35 (Kd.R_reads' HO_5.out).2.2 x7_2 p5 q5
                            cases e5
                            replace p5 := eq_true p5
                            replace q5 := eq_true q5
                            have p6 : 0 ≤ ((ji11) : Int) := of_decide_eq_true (by first | (with_reducible assumption) | assumption)
                            have q6 : (ji11) < (l1.length : Int) := of_decide_eq_true (by first | (with_reducible assumption) | assumption)
                            obtain ⟨ad6, e6, hx6_0⟩ := Kd.at_string HR1.out (ji11) p6 q6
                            cases e6
                            replace hx6_0 := (HB.out.cell (World.block_lt_of_cell? w _ hx6_0)).trans hx6_0
                            replace p6 := eq_true p6
                            replace q6 := eq_true q6
                            have p7 : 0 ≤ (x7_2 : Int) := of_decide_eq_true (by first | (with_reducible assumption) | assumption)
                            have q7 : x7_2 < (t1.length : Int) := of_decide_eq_true (by first | (with_reducible assumption) | assumption)
                            obtain ⟨ad7, e7, hx7_0, hx7_1⟩ := at_T35 (Kd.R_reads' HO_5.out).2.2 x7_2 p7 q7
                            obtain rfl : ad5 = ad7 := (by injection e7)
                            replace p7 := eq_true p7
                            replace q7 := eq_true q7
                            have p8 : 0 ≤ ((ji15) : Int) := of_decide_eq_true (by first | (with_reducible assumption) | assumption)
                            have q8 : (ji15) < (l1.length : Int) := of_decide_eq_true (by first | (with_reducible assumption) | assumption)
                            obtain ⟨ad8, e8, hx8_0⟩ := Kd.at_string HR1.out (ji15) p8 q8
                            obtain rfl : ad6 = ad8 := (by injection e8)
                            replace hx8_0 := (HB.out.cell (World.block_lt_of_cell? w _ hx8_0)).trans hx8_0
                            replace p8 := eq_true p8
                            replace q8 := eq_true q8
                            go_wp2
                            repeat (go_quiet (fail); try go_wp2)
                            go_ret
                            exact ⟨by first | rfl | (simp [errW_none, errW_some] <;> rfl) | (simp only [← hji11, ← hji15]; first | rfl | (simp [errW_none, errW_some] <;> rfl)) | (simp [*, errW_none, errW_some] <;> rfl), by repeat (first | (with_reducible first | exact HB.out | apply below_alloc | apply pw_below_drewN | apply below_drew1) | exact HB.out)⟩
                        · rw [if_neg c17] at H
                          exact absurd H (by simp)
                      · rw [if_neg c16] at H
                        exact absurd H (by simp)
                    · rw [if_neg c14] at H
                      have c14b0 : (((rd_T35 t1 x7_2).f0).toList == (rdOf ByteArray.empty l1 (ji11)).toList) = false := beq_eq_false_iff_ne.mpr c14
                      have c14b1 : (((rd_T35 t1 x7_2).f0).toList != (rdOf ByteArray.empty l1 (ji11)).toList) = true := bne_iff_ne.mpr c14
                      obtain rfl := Option.some.inj H
                      obtain ⟨Ao21, co21, eo21⟩ := Kd.R_slice HO_5.out
                      subst eo21
                      have p5 : 0 ≤ (x7_2 : Int) := of_decide_eq_true (by first | (with_reducible assumption) | assumption)
                      have q5 : x7_2 < (t1.length : Int) := of_decide_eq_true (by first | (with_reducible assumption) | assumption)
                      obtain ⟨ad5, e5, hx5_0, hx5_1⟩ := at_T35 (Kd.R_reads' HO_5.out).2.2 x7_2 p5 q5
                      cases e5
                      replace p5 := eq_true p5
                      replace q5 := eq_true q5
                      have p6 : 0 ≤ ((ji11) : Int) := of_decide_eq_true (by first | (with_reducible assumption) | assumption)
                      have q6 : (ji11) < (l1.length : Int) := of_decide_eq_true (by first | (with_reducible assumption) | assumption)
                      obtain ⟨ad6, e6, hx6_0⟩ := Kd.at_string HR1.out (ji11) p6 q6
                      cases e6
                      replace hx6_0 := (HB.out.cell (World.block_lt_of_cell? w _ hx6_0)).trans hx6_0
                      replace p6 := eq_true p6
                      replace q6 := eq_true q6
                      go_wp2
                      repeat (go_quiet (fail); try go_wp2)
                      go_ret
                      exact ⟨by first | rfl | (simp [errW_none, errW_some] <;> rfl) | (simp only [← hji11]; first | rfl | (simp [errW_none, errW_some] <;> rfl)) | (simp [*, errW_none, errW_some] <;> rfl), by repeat (first | (with_reducible first | exact HB.out | apply below_alloc | apply pw_below_drewN | apply below_drew1) | exact HB.out)⟩
                  · rw [if_neg c13] at H
                    exact absurd H (by simp)
                · rw [if_neg c12] at H
                  exact absurd H (by simp)
              · rw [if_neg c10] at H
                exact absurd H (by simp)
            · rw [if_neg c9] at H
              have c9b0 : decide (x7_2 < (t1.length : Int)) = false := decide_eq_false c9
              clear c9
              obtain rfl := Option.some.inj H
              obtain ⟨Ao22, co22, eo22⟩ := Kd.R_slice HO_5.out
              subst eo22
              go_wp2
              repeat (go_quiet (fail); try go_wp2)
              go_ret
              exact ⟨by first | rfl | (simp [errW_none, errW_some] <;> rfl) | (simp [*, errW_none, errW_some] <;> rfl), by repeat (first | (with_reducible first | exact HB.out | apply below_alloc | apply pw_below_drewN | apply below_drew1) | exact HB.out)⟩

end Go.Proofs.YtnmofpefofkoeaaGreatDoor.P
