import Derived.Test.YtnmofpefofkoeaaGreatDoorF0
import Derived.Test.YtnmofpefofkoeaaGreatDoorClean
import Derived.Test.YtnmofpefofkoeaaGreatDoorFTwoM
import Derived.Test.YtnmofpefofkoeaaGreatDoorParse
import Derived.Test.YtnmofpefofkoeaaGreatDoorDecM
import Derived.Test.YtnmofpefofkoeaaGreatDoorSet
namespace Go.Proofs.YtnmofpefofkoeaaGreatDoor.P
open Go.RowKit Go.Proofs.YtnmofpefofkoeaaGreatDoorW.PrintWords Go.Proofs.YtnmofpefofkoeaaGreatDoorW.PrintLast Go.Proofs.YtnmofpefofkoeaaGreatDoorW.PrintMore
attribute [local go_sem] max2_int min2_int max_two min_two max_three min_three max_four min_four leq_str
set_option linter.unusedVariables false
set_option linter.unusedSimpArgs false

/-! ### driftnetlaw16_LogfmtBack: function 7 -/
mutual
def driftnetlaw16_LogfmtBack.l0 : Nat → List (S35) → List Int → ByteArray → List (S35) → Int → Option (Bool)
  | 0, _, _, _, _, _ => none
  | k + 1, x0, x1, x5, x6, x7 => if x7 < (x0.length : Int) then (driftnetlaw16_LogfmtBack.j1 k x0 x1 x5 x6 x7 (decide (x7 < 30))) else (driftnetlaw16_LogfmtBack.j1 k x0 x1 x5 x6 x7 false)
def driftnetlaw16_LogfmtBack.j1 : Nat → List (S35) → List Int → ByteArray → List (S35) → Int → Bool → Option (Bool)
  | 0, _, _, _, _, _, _ => none
  | k + 1, x0, x1, x5, x6, x7, x22 => if x22 = true then (if x7 < (x1.length : Int) then (if 0 ≤ x7 then ((driftnetlaw16_blanks.f (rd x1 x7)).bind fun t8 => (if x7 < (x0.length : Int) then (if 0 ≤ (mn (((rd_T35 x0 x7).f0).size : Int) 80) then (if (mn (((rd_T35 x0 x7).f0).size : Int) 80) ≤ (((rd_T35 x0 x7).f0).size : Int) then ((labels_Clean.f (((rd_T35 x0 x7).f0).extract 0 ((mn (((rd_T35 x0 x7).f0).size : Int) 80) : Int).toNat)).bind fun t11 => (if 0 ≤ (mn (((rd_T35 x0 x7).f1).size : Int) 200) then (if (mn (((rd_T35 x0 x7).f1).size : Int) 200) ≤ (((rd_T35 x0 x7).f1).size : Int) then (if x5.size + t8.size ≤ 9223372036854775807 then (if (x5 ++ t8).size + t11.size ≤ 9223372036854775807 then (if ((x5 ++ t8) ++ t11).size + 1 ≤ 9223372036854775807 then ((quote_Quote.f (((rd_T35 x0 x7).f1).extract 0 ((mn (((rd_T35 x0 x7).f1).size : Int) 200) : Int).toNat)).bind fun t14 => (if (((x5 ++ t8) ++ t11) ++ (⟨#[61]⟩ : ByteArray)).size + t14.size ≤ 9223372036854775807 then ((labels_Set.f x6 t11 (((rd_T35 x0 x7).f1).extract 0 ((mn (((rd_T35 x0 x7).f1).size : Int) 200) : Int).toNat)).bind fun t15 => (driftnetlaw16_LogfmtBack.l0 k x0 x1 ((((x5 ++ t8) ++ t11) ++ (⟨#[61]⟩ : ByteArray)) ++ t14) t15 (wrap64 (x7 + 1)))) else (none))) else (none)) else (none)) else (none)) else (none)) else (none))) else (none)) else (none)) else (none))) else (none)) else (if 0 ≤ x7 then (if x7 < (x0.length : Int) then (if 0 ≤ (mn (((rd_T35 x0 x7).f0).size : Int) 80) then (if (mn (((rd_T35 x0 x7).f0).size : Int) 80) ≤ (((rd_T35 x0 x7).f0).size : Int) then ((labels_Clean.f (((rd_T35 x0 x7).f0).extract 0 ((mn (((rd_T35 x0 x7).f0).size : Int) 80) : Int).toNat)).bind fun t20 => (if 0 ≤ (mn (((rd_T35 x0 x7).f1).size : Int) 200) then (if (mn (((rd_T35 x0 x7).f1).size : Int) 200) ≤ (((rd_T35 x0 x7).f1).size : Int) then (if x5.size + 1 ≤ 9223372036854775807 then (if (x5 ++ (⟨#[32]⟩ : ByteArray)).size + t20.size ≤ 9223372036854775807 then (if ((x5 ++ (⟨#[32]⟩ : ByteArray)) ++ t20).size + 1 ≤ 9223372036854775807 then ((quote_Quote.f (((rd_T35 x0 x7).f1).extract 0 ((mn (((rd_T35 x0 x7).f1).size : Int) 200) : Int).toNat)).bind fun t23 => (if (((x5 ++ (⟨#[32]⟩ : ByteArray)) ++ t20) ++ (⟨#[61]⟩ : ByteArray)).size + t23.size ≤ 9223372036854775807 then ((labels_Set.f x6 t20 (((rd_T35 x0 x7).f1).extract 0 ((mn (((rd_T35 x0 x7).f1).size : Int) 200) : Int).toNat)).bind fun t24 => (driftnetlaw16_LogfmtBack.l0 k x0 x1 ((((x5 ++ (⟨#[32]⟩ : ByteArray)) ++ t20) ++ (⟨#[61]⟩ : ByteArray)) ++ t23) t24 (wrap64 (x7 + 1)))) else (none))) else (none)) else (none)) else (none)) else (none)) else (none))) else (none)) else (none)) else (none)) else (none))) else ((logfmt_Parse.f x5).bind fun bt2 => (if bt2.2 = true then ((driftnetlaw16_same.f k bt2.1 x6).bind fun t6 => (some t6)) else (some false)))
end
def driftnetlaw16_LogfmtBack.f (k : Nat) (l0 : List (S35)) (l1 : List Int) : Option (Bool) := (driftnetlaw16_works.f k).bind fun t1 => (if t1 = true then (driftnetlaw16_LogfmtBack.l0 k l0 l1 (⟨#[]⟩ : ByteArray) ([] : List (S35)) 0) else (some false))
theorem driftnetlaw16_LogfmtBack.mono_l : ∀ k, (∀ y0 y1 y2 y3 y4, LeO (driftnetlaw16_LogfmtBack.l0 k y0 y1 y2 y3 y4) (driftnetlaw16_LogfmtBack.l0 (k + 1) y0 y1 y2 y3 y4)) ∧ (∀ y0 y1 y2 y3 y4 y5, LeO (driftnetlaw16_LogfmtBack.j1 k y0 y1 y2 y3 y4 y5) (driftnetlaw16_LogfmtBack.j1 (k + 1) y0 y1 y2 y3 y4 y5))
  | 0 => ⟨fun _ _ _ _ _ r h => by simp [driftnetlaw16_LogfmtBack.l0] at h, fun _ _ _ _ _ _ r h => by simp [driftnetlaw16_LogfmtBack.j1] at h⟩
  | k + 1 => by
    obtain ⟨ih0, ih1⟩ := driftnetlaw16_LogfmtBack.mono_l k
    refine ⟨?_, ?_⟩
    · intro y0 y1 y2 y3 y4
      unfold driftnetlaw16_LogfmtBack.l0
      repeat' first
      | (with_reducible exact ih0 _ _ _ _ _)
      | (with_reducible exact ih1 _ _ _ _ _ _)
      | (with_reducible exact driftnetlaw16_same.mono _ _ _)
      | (with_reducible exact driftnetlaw16_works.mono _)
      | (with_reducible exact LeO.refl _)
      | (with_reducible exact LeO.none _)
      | (with_reducible refine LeO.ite ?_ ?_)
      | (with_reducible refine LeO.bind ?_ (fun _ => ?_))
      | exact ih0 _ _ _ _ _
      | exact ih1 _ _ _ _ _ _
      | exact driftnetlaw16_same.mono _ _ _
      | exact driftnetlaw16_works.mono _
      | exact LeO.none _
      | refine LeO.ite ?_ ?_
      | refine LeO.bind ?_ (fun _ => ?_)
    · intro y0 y1 y2 y3 y4 y5
      unfold driftnetlaw16_LogfmtBack.j1
      repeat' first
      | (with_reducible exact ih0 _ _ _ _ _)
      | (with_reducible exact ih1 _ _ _ _ _ _)
      | (with_reducible exact driftnetlaw16_same.mono _ _ _)
      | (with_reducible exact driftnetlaw16_works.mono _)
      | (with_reducible exact LeO.refl _)
      | (with_reducible exact LeO.none _)
      | (with_reducible refine LeO.ite ?_ ?_)
      | (with_reducible refine LeO.bind ?_ (fun _ => ?_))
      | exact ih0 _ _ _ _ _
      | exact ih1 _ _ _ _ _ _
      | exact driftnetlaw16_same.mono _ _ _
      | exact driftnetlaw16_works.mono _
      | exact LeO.none _
      | refine LeO.ite ?_ ?_
      | refine LeO.bind ?_ (fun _ => ?_)
theorem driftnetlaw16_LogfmtBack.mono : ∀ a0 a1 k, LeO (driftnetlaw16_LogfmtBack.f k a0 a1) (driftnetlaw16_LogfmtBack.f (k + 1) a0 a1) := by
  intro a0 a1 k
  obtain ⟨ih0, ih1⟩ := driftnetlaw16_LogfmtBack.mono_l k
  unfold driftnetlaw16_LogfmtBack.f
  repeat' first
      | (with_reducible exact ih0 _ _ _ _ _)
      | (with_reducible exact ih1 _ _ _ _ _ _)
      | (with_reducible exact driftnetlaw16_same.mono _ _ _)
      | (with_reducible exact driftnetlaw16_works.mono _)
      | (with_reducible exact LeO.refl _)
      | (with_reducible exact LeO.none _)
      | (with_reducible refine LeO.ite ?_ ?_)
      | (with_reducible refine LeO.bind ?_ (fun _ => ?_))
      | exact ih0 _ _ _ _ _
      | exact ih1 _ _ _ _ _ _
      | exact driftnetlaw16_same.mono _ _ _
      | exact driftnetlaw16_works.mono _
      | exact LeO.none _
      | refine LeO.ite ?_ ?_
      | refine LeO.bind ?_ (fun _ => ?_)
def driftnetlaw16_LogfmtBack.T11 : Bool × List (List Nat × List Nat) := (true, [([], []), ([], []), ([0, 1], [0, 1]), ([2], [2]), ([3], [3]), ([], []), ([], []), ([5, 6], [5, 6]), ([7], [7]), ([8], [8]), ([9], [9]), ([10], [10]), ([4, 11], [4, 11]), ([12], [12]), ([], []), ([], []), ([14, 15], [14, 15]), ([16], [16]), ([17], [17]), ([], []), ([], []), ([19, 20], [19, 20]), ([21], [21]), ([22], [22]), ([23], [23]), ([24], [24]), ([18, 25], [18, 25]), ([13, 13, 0, 1, 2, 3, 4, 5, 6, 7, 8, 9, 10, 11, 12, 13], [13]), ([26, 27, 0, 1, 2, 3, 4, 5, 6, 7, 8, 9, 10, 11, 12, 13, 14, 15, 16, 17, 18, 19, 20, 21, 22, 23, 24, 25, 26, 27], [26])])
def driftnetlaw16_LogfmtBack.B11 : List Nat := [0, 0, 3, 7, 15, 0, 0, 96, 224, 480, 992, 2016, 4095, 8191, 0, 0, 49152, 114688, 245760, 0, 0, 1572864, 3670016, 7864320, 16252928, 33030144, 67092480, 16383, 268435455]
theorem driftnetlaw16_LogfmtBack.tab11 : rtab .any (opsOf Tryz.f7 11) = driftnetlaw16_LogfmtBack.T11 := by kernel_rfl
theorem driftnetlaw16_LogfmtBack.bits11 : waitsOk driftnetlaw16_LogfmtBack.T11.2 driftnetlaw16_LogfmtBack.B11 = true := by kernel_rfl
set_option maxHeartbeats 8000000 in
set_option maxRecDepth 100000 in
theorem driftnetlaw16_LogfmtBack.calls (k : Nat) (A0 : Option Addr) (c0 : Nat) (l0 : List (S35)) (A1 : Option Addr) (c1 : Nat) (l1 : List Int) (r : Bool) (w : World) (hr0 : Kd.C k35 w A0 l0.length l0) (hc0 : l0.length ≤ c0) (hr1 : Kd.C (Kd.int .i64) w A1 l1.length l1) (hc1 : l1.length ≤ c1) (hG : Aside0 (G w)) (h : driftnetlaw16_LogfmtBack.f k l0 l1 = some r) :
    Calls Tryz.prog 7 #[.slice A0 l0.length c0, .slice A1 l1.length c1] w fun e w' => e = .returned (.bool r) ∧ Below w.heap.size w w' := by
  have HR0 := Aside0.mk hr0
  have HC0 := Aside0.mk hc0
  clear hr0 hc0
  have HR1 := Aside0.mk hr1
  have HC1 := Aside0.mk hc1
  clear hr1 hc1
  have HB := Aside0.mk (Below.refl w.heap.size w)
  have H : ((driftnetlaw16_works.f k).bind fun t1 => (if t1 = true then (driftnetlaw16_LogfmtBack.l0 k l0 l1 (⟨#[]⟩ : ByteArray) ([] : List (S35)) 0) else (some false))) = some r := h
  clear h
  replace H := Option.bind_eq_some_iff.mp H
  obtain ⟨t1, A30, H⟩ := H
  replace H : (if t1 = true then (driftnetlaw16_LogfmtBack.l0 k l0 l1 (⟨#[]⟩ : ByteArray) ([] : List (S35)) 0) else (some false)) = some r := H
  have A3 := Aside0.mk A30
  clear A30
  by_cases c4 : t1 = true
  · subst c4
    have H1 : (driftnetlaw16_LogfmtBack.l0 k l0 l1 (⟨#[]⟩ : ByteArray) ([] : List (S35)) 0) = some r := by rw [if_pos rfl] at H; exact H
    clear H
    have H := H1
    clear H1
    have H' := Aside0.mk H
    clear H
    go_enter Tryz.func7, Tryz.ntmps7
    go_wp2_with (first | ((with_reducible refine gate_callee (f := 11) rfl ?_); refine goesL_ (some 13) rfl rfl Tryz.func11 (by kernel_rfl) rfl #[] rfl (by (try simp only [List.map_toArray, List.map_cons, List.map_nil]); first | done | rfl | (simp only [List.length_drop, List.length_take]; rfl)) ?_; (with_reducible refine (driftnetlaw16_works.calls k  true _ ?side1 A3.out).mono ?_); (case side1 => exact G.at hG.out (by repeat (first | (with_reducible first | exact HB.out | apply below_alloc | apply pw_below_drewN | apply below_drew1) | exact HB.out))); rintro e w5 ⟨rfl, hb⟩; refine ⟨_, rfl, ?_⟩; have n0_ := Aside0.mk (below_step (by repeat (first | (with_reducible first | exact HB.out | apply below_alloc | apply pw_below_drewN | apply below_drew1) | exact HB.out)) hb); clear HB; have HB := n0_; clear n0_; (try clear hb); (try clear hb2); (try clear hk); (try clear hi)))
    go_loopg [5, 6, 7] k (fun kq v5 v6 v7 w' => ∃ (x5_1 : ByteArray) (x6_1 : List (S35)) (x7_1 : Int), v5 = .string x5_1 ∧ v7 = .int .i64 x7_1 ∧ Aside0 (driftnetlaw16_LogfmtBack.l0 kq l0 l1 x5_1 x6_1 x7_1 = some r) ∧ Aside0 (kq ≤ k) ∧ Aside0 (Kd.R k35 35 w' w.heap.size (fun _ => True) v6 x6_1) ∧ Aside0 (Below w.heap.size w w'))
    case atStart => exact ⟨((⟨#[]⟩ : ByteArray)), (([] : List (S35))), (0), (by first | rfl | (simp; done) | (simp [*]; done)), (by first | rfl | (simp; done) | (simp [*]; done)), H', ⟨Nat.le_refl _⟩, ⟨by first | exact Kd.R_nil _ _ _ _ _ | exact Kd.N_nil _ _ _ _ _ | exact Kd.V_nil _ _ _ _ _ | exact Kd.Q_nil _ _ _ _ _ | exact Kd.S_nil _ _ _ _ _⟩, ⟨by repeat (first | (with_reducible first | exact HB.out | apply below_alloc | apply pw_below_drewN | apply below_drew1) | exact HB.out)⟩⟩
    case round =>
      clear H'
      try clear c1
      try clear p2
      try clear c4
      obtain ⟨x5_1, x6_1, x7_1, rfl, rfl, HA, HK1, HO_6, HB⟩ := hrel
      cases gk with
      | zero => exact absurd HA.out (by simp [driftnetlaw16_LogfmtBack.l0])
      | succ k1 =>
        have H := HA.out
        clear HA
        simp only [driftnetlaw16_LogfmtBack.l0] at H
        have HC6 := Aside0.mk H
        clear H
        go_upto_region 6 with (fail)
        go_cut [22] (fun v22 wc => ∃ (kq : Nat) (x22_5 : Bool), v22 = .bool x22_5 ∧ Aside0 (driftnetlaw16_LogfmtBack.j1 kq l0 l1 x5_1 x6_1 x7_1 x22_5 = some r) ∧ Aside0 (kq ≤ k1) ∧ Aside0 (Kd.R k35 35 wc w.heap.size (fun _ => True) u6 x6_1) ∧ Aside0 (Below w.heap.size w wc))
        case first =>
          have H := HC6.out
          clear HC6
          by_cases c7 : x7_1 < (l0.length : Int)
          · rw [if_pos c7] at H
            have c7b0 : decide (x7_1 < (l0.length : Int)) = true := decide_eq_true c7
            clear c7
            (first | rw [c7b0] | (simp only [i64_w, i32_w]; rw [c7b0]) | skip)
            have H' := Aside0.mk H
            clear H
            go_wp2
            go_meet
            case rel => exact ⟨_, (decide (x7_1 < 30)), (by first | rfl | (simp; done) | (simp [*]; done)), H', ⟨by have := HK1.out; first | omega | exact Nat.le_refl _⟩, ⟨by (with_reducible repeat (first | apply Kd.R_alloc | apply Kd.R_drewN | apply Kd.R_drew)); exact HO_6.out⟩, ⟨by repeat (first | (with_reducible first | exact HB.out | apply below_alloc | apply pw_below_drewN | apply below_drew1) | exact HB.out)⟩⟩
          · rw [if_neg c7] at H
            have c7b0 : decide (x7_1 < (l0.length : Int)) = false := decide_eq_false c7
            clear c7
            (first | rw [c7b0] | (simp only [i64_w, i32_w]; rw [c7b0]) | skip)
            have H' := Aside0.mk H
            clear H
            go_wp2
            go_meet
            case rel => exact ⟨_, (false), (by first | rfl | (simp; done) | (simp [*]; done)), H', ⟨by have := HK1.out; first | omega | exact Nat.le_refl _⟩, ⟨by (with_reducible repeat (first | apply Kd.R_alloc | apply Kd.R_drewN | apply Kd.R_drew)); exact HO_6.out⟩, ⟨by repeat (first | (with_reducible first | exact HB.out | apply below_alloc | apply pw_below_drewN | apply below_drew1) | exact HB.out)⟩⟩
        case rest =>
          clear HC6
          try clear c1
          try clear p2
          try clear c4
          try clear c7
          try clear c7b0
          try clear p2
          obtain ⟨kq, x22_5, rfl, HA, HJ5, HO_6, HB⟩ := hcut
          cases kq with
          | zero => exact absurd HA.out (by simp [driftnetlaw16_LogfmtBack.j1])
          | succ kj5 =>
            have H := HA.out
            clear HA
            simp only [driftnetlaw16_LogfmtBack.j1] at H
            by_cases c8 : x22_5 = true
            · subst c8
              have H1 : (if x7_1 < (l1.length : Int) then (if 0 ≤ x7_1 then ((driftnetlaw16_blanks.f (rd l1 x7_1)).bind fun t8 => (if x7_1 < (l0.length : Int) then (if 0 ≤ (mn (((rd_T35 l0 x7_1).f0).size : Int) 80) then (if (mn (((rd_T35 l0 x7_1).f0).size : Int) 80) ≤ (((rd_T35 l0 x7_1).f0).size : Int) then ((labels_Clean.f (((rd_T35 l0 x7_1).f0).extract 0 ((mn (((rd_T35 l0 x7_1).f0).size : Int) 80) : Int).toNat)).bind fun t11 => (if 0 ≤ (mn (((rd_T35 l0 x7_1).f1).size : Int) 200) then (if (mn (((rd_T35 l0 x7_1).f1).size : Int) 200) ≤ (((rd_T35 l0 x7_1).f1).size : Int) then (if x5_1.size + t8.size ≤ 9223372036854775807 then (if (x5_1 ++ t8).size + t11.size ≤ 9223372036854775807 then (if ((x5_1 ++ t8) ++ t11).size + 1 ≤ 9223372036854775807 then ((quote_Quote.f (((rd_T35 l0 x7_1).f1).extract 0 ((mn (((rd_T35 l0 x7_1).f1).size : Int) 200) : Int).toNat)).bind fun t14 => (if (((x5_1 ++ t8) ++ t11) ++ (⟨#[61]⟩ : ByteArray)).size + t14.size ≤ 9223372036854775807 then ((labels_Set.f x6_1 t11 (((rd_T35 l0 x7_1).f1).extract 0 ((mn (((rd_T35 l0 x7_1).f1).size : Int) 200) : Int).toNat)).bind fun t15 => (driftnetlaw16_LogfmtBack.l0 kj5 l0 l1 ((((x5_1 ++ t8) ++ t11) ++ (⟨#[61]⟩ : ByteArray)) ++ t14) t15 (wrap64 (x7_1 + 1)))) else (none))) else (none)) else (none)) else (none)) else (none)) else (none))) else (none)) else (none)) else (none))) else (none)) else (if 0 ≤ x7_1 then (if x7_1 < (l0.length : Int) then (if 0 ≤ (mn (((rd_T35 l0 x7_1).f0).size : Int) 80) then (if (mn (((rd_T35 l0 x7_1).f0).size : Int) 80) ≤ (((rd_T35 l0 x7_1).f0).size : Int) then ((labels_Clean.f (((rd_T35 l0 x7_1).f0).extract 0 ((mn (((rd_T35 l0 x7_1).f0).size : Int) 80) : Int).toNat)).bind fun t20 => (if 0 ≤ (mn (((rd_T35 l0 x7_1).f1).size : Int) 200) then (if (mn (((rd_T35 l0 x7_1).f1).size : Int) 200) ≤ (((rd_T35 l0 x7_1).f1).size : Int) then (if x5_1.size + 1 ≤ 9223372036854775807 then (if (x5_1 ++ (⟨#[32]⟩ : ByteArray)).size + t20.size ≤ 9223372036854775807 then (if ((x5_1 ++ (⟨#[32]⟩ : ByteArray)) ++ t20).size + 1 ≤ 9223372036854775807 then ((quote_Quote.f (((rd_T35 l0 x7_1).f1).extract 0 ((mn (((rd_T35 l0 x7_1).f1).size : Int) 200) : Int).toNat)).bind fun t23 => (if (((x5_1 ++ (⟨#[32]⟩ : ByteArray)) ++ t20) ++ (⟨#[61]⟩ : ByteArray)).size + t23.size ≤ 9223372036854775807 then ((labels_Set.f x6_1 t20 (((rd_T35 l0 x7_1).f1).extract 0 ((mn (((rd_T35 l0 x7_1).f1).size : Int) 200) : Int).toNat)).bind fun t24 => (driftnetlaw16_LogfmtBack.l0 kj5 l0 l1 ((((x5_1 ++ (⟨#[32]⟩ : ByteArray)) ++ t20) ++ (⟨#[61]⟩ : ByteArray)) ++ t23) t24 (wrap64 (x7_1 + 1)))) else (none))) else (none)) else (none)) else (none)) else (none)) else (none))) else (none)) else (none)) else (none)) else (none))) = some r := by rw [if_pos rfl] at H; exact H
              clear H
              have H := H1
              clear H1
              by_cases c9 : x7_1 < (l1.length : Int)
              · rw [if_pos c9] at H
                have c9b0 : decide (x7_1 < (l1.length : Int)) = true := decide_eq_true c9
                clear c9
                by_cases c10 : 0 ≤ x7_1
                · rw [if_pos c10] at H
                  have c10b0 : decide (0 ≤ x7_1) = true := decide_eq_true c10
                  clear c10
                  replace H := Option.bind_eq_some_iff.mp H
                  obtain ⟨t8, A110, H⟩ := H
                  replace H : (if x7_1 < (l0.length : Int) then (if 0 ≤ (mn (((rd_T35 l0 x7_1).f0).size : Int) 80) then (if (mn (((rd_T35 l0 x7_1).f0).size : Int) 80) ≤ (((rd_T35 l0 x7_1).f0).size : Int) then ((labels_Clean.f (((rd_T35 l0 x7_1).f0).extract 0 ((mn (((rd_T35 l0 x7_1).f0).size : Int) 80) : Int).toNat)).bind fun t11 => (if 0 ≤ (mn (((rd_T35 l0 x7_1).f1).size : Int) 200) then (if (mn (((rd_T35 l0 x7_1).f1).size : Int) 200) ≤ (((rd_T35 l0 x7_1).f1).size : Int) then (if x5_1.size + t8.size ≤ 9223372036854775807 then (if (x5_1 ++ t8).size + t11.size ≤ 9223372036854775807 then (if ((x5_1 ++ t8) ++ t11).size + 1 ≤ 9223372036854775807 then ((quote_Quote.f (((rd_T35 l0 x7_1).f1).extract 0 ((mn (((rd_T35 l0 x7_1).f1).size : Int) 200) : Int).toNat)).bind fun t14 => (if (((x5_1 ++ t8) ++ t11) ++ (⟨#[61]⟩ : ByteArray)).size + t14.size ≤ 9223372036854775807 then ((labels_Set.f x6_1 t11 (((rd_T35 l0 x7_1).f1).extract 0 ((mn (((rd_T35 l0 x7_1).f1).size : Int) 200) : Int).toNat)).bind fun t15 => (driftnetlaw16_LogfmtBack.l0 kj5 l0 l1 ((((x5_1 ++ t8) ++ t11) ++ (⟨#[61]⟩ : ByteArray)) ++ t14) t15 (wrap64 (x7_1 + 1)))) else (none))) else (none)) else (none)) else (none)) else (none)) else (none))) else (none)) else (none)) else (none)) = some r := H
                  have A11 := Aside0.mk A110
                  clear A110
                  by_cases c12 : x7_1 < (l0.length : Int)
                  · rw [if_pos c12] at H
                    have c12b0 : decide (x7_1 < (l0.length : Int)) = true := decide_eq_true c12
                    clear c12
                    obtain ⟨ji13, hji13⟩ : ∃ j_ : Int, (mn (((rd_T35 l0 x7_1).f0).size : Int) 80) = j_ := ⟨_, rfl⟩
                    replace H : (if 0 ≤ (ji13) then (if (ji13) ≤ (((rd_T35 l0 x7_1).f0).size : Int) then ((labels_Clean.f (((rd_T35 l0 x7_1).f0).extract 0 ((ji13) : Int).toNat)).bind fun t11 => (if 0 ≤ (mn (((rd_T35 l0 x7_1).f1).size : Int) 200) then (if (mn (((rd_T35 l0 x7_1).f1).size : Int) 200) ≤ (((rd_T35 l0 x7_1).f1).size : Int) then (if x5_1.size + t8.size ≤ 9223372036854775807 then (if (x5_1 ++ t8).size + t11.size ≤ 9223372036854775807 then (if ((x5_1 ++ t8) ++ t11).size + 1 ≤ 9223372036854775807 then ((quote_Quote.f (((rd_T35 l0 x7_1).f1).extract 0 ((mn (((rd_T35 l0 x7_1).f1).size : Int) 200) : Int).toNat)).bind fun t14 => (if (((x5_1 ++ t8) ++ t11) ++ (⟨#[61]⟩ : ByteArray)).size + t14.size ≤ 9223372036854775807 then ((labels_Set.f x6_1 t11 (((rd_T35 l0 x7_1).f1).extract 0 ((mn (((rd_T35 l0 x7_1).f1).size : Int) 200) : Int).toNat)).bind fun t15 => (driftnetlaw16_LogfmtBack.l0 kj5 l0 l1 ((((x5_1 ++ t8) ++ t11) ++ (⟨#[61]⟩ : ByteArray)) ++ t14) t15 (wrap64 (x7_1 + 1)))) else (none))) else (none)) else (none)) else (none)) else (none)) else (none))) else (none)) else (none)) = some r := by first | (rw [hji13] at H; exact H) | (simp only [hji13] at H ⊢; exact H)
                    (try rw [hji13] at A11)
                    have hji13_ : (if 80 < (((rd_T35 l0 x7_1).f0).size : Int) then 80 else (((rd_T35 l0 x7_1).f0).size : Int)) = ji13 := hji13
                    by_cases c14 : 0 ≤ (ji13)
                    · rw [if_pos c14] at H
                      have c14b0 := eq_true c14
                      have c14b1 : decide (0 ≤ (ji13)) = true := decide_eq_true c14
                      clear c14
                      by_cases c15 : (ji13) ≤ (((rd_T35 l0 x7_1).f0).size : Int)
                      · rw [if_pos c15] at H
                        have c15b0 := eq_true c15
                        have c15b1 : decide ((ji13) ≤ (((rd_T35 l0 x7_1).f0).size : Int)) = true := decide_eq_true c15
                        clear c15
                        replace H := Option.bind_eq_some_iff.mp H
                        obtain ⟨t11, A160, H⟩ := H
                        replace H : (if 0 ≤ (mn (((rd_T35 l0 x7_1).f1).size : Int) 200) then (if (mn (((rd_T35 l0 x7_1).f1).size : Int) 200) ≤ (((rd_T35 l0 x7_1).f1).size : Int) then (if x5_1.size + t8.size ≤ 9223372036854775807 then (if (x5_1 ++ t8).size + t11.size ≤ 9223372036854775807 then (if ((x5_1 ++ t8) ++ t11).size + 1 ≤ 9223372036854775807 then ((quote_Quote.f (((rd_T35 l0 x7_1).f1).extract 0 ((mn (((rd_T35 l0 x7_1).f1).size : Int) 200) : Int).toNat)).bind fun t14 => (if (((x5_1 ++ t8) ++ t11) ++ (⟨#[61]⟩ : ByteArray)).size + t14.size ≤ 9223372036854775807 then ((labels_Set.f x6_1 t11 (((rd_T35 l0 x7_1).f1).extract 0 ((mn (((rd_T35 l0 x7_1).f1).size : Int) 200) : Int).toNat)).bind fun t15 => (driftnetlaw16_LogfmtBack.l0 kj5 l0 l1 ((((x5_1 ++ t8) ++ t11) ++ (⟨#[61]⟩ : ByteArray)) ++ t14) t15 (wrap64 (x7_1 + 1)))) else (none))) else (none)) else (none)) else (none)) else (none)) else (none)) = some r := H
                        have A16 := Aside0.mk A160
                        clear A160
                        obtain ⟨ji17, hji17⟩ : ∃ j_ : Int, (mn (((rd_T35 l0 x7_1).f1).size : Int) 200) = j_ := ⟨_, rfl⟩
                        replace H : (if 0 ≤ (ji17) then (if (ji17) ≤ (((rd_T35 l0 x7_1).f1).size : Int) then (if x5_1.size + t8.size ≤ 9223372036854775807 then (if (x5_1 ++ t8).size + t11.size ≤ 9223372036854775807 then (if ((x5_1 ++ t8) ++ t11).size + 1 ≤ 9223372036854775807 then ((quote_Quote.f (((rd_T35 l0 x7_1).f1).extract 0 ((ji17) : Int).toNat)).bind fun t14 => (if (((x5_1 ++ t8) ++ t11) ++ (⟨#[61]⟩ : ByteArray)).size + t14.size ≤ 9223372036854775807 then ((labels_Set.f x6_1 t11 (((rd_T35 l0 x7_1).f1).extract 0 ((ji17) : Int).toNat)).bind fun t15 => (driftnetlaw16_LogfmtBack.l0 kj5 l0 l1 ((((x5_1 ++ t8) ++ t11) ++ (⟨#[61]⟩ : ByteArray)) ++ t14) t15 (wrap64 (x7_1 + 1)))) else (none))) else (none)) else (none)) else (none)) else (none)) else (none)) = some r := by first | (rw [hji17] at H; exact H) | (simp only [hji17] at H ⊢; exact H)
                        (try rw [hji17] at A11)
                        (try rw [hji17] at A16)
                        have hji17_ : (if 200 < (((rd_T35 l0 x7_1).f1).size : Int) then 200 else (((rd_T35 l0 x7_1).f1).size : Int)) = ji17 := hji17
                        by_cases c18 : 0 ≤ (ji17)
                        · rw [if_pos c18] at H
                          have c18b0 := eq_true c18
                          have c18b1 : decide (0 ≤ (ji17)) = true := decide_eq_true c18
                          clear c18
                          by_cases c19 : (ji17) ≤ (((rd_T35 l0 x7_1).f1).size : Int)
                          · rw [if_pos c19] at H
                            have c19b0 := eq_true c19
                            have c19b1 : decide ((ji17) ≤ (((rd_T35 l0 x7_1).f1).size : Int)) = true := decide_eq_true c19
                            clear c19
                            by_cases c20 : x5_1.size + t8.size ≤ 9223372036854775807
                            · rw [if_pos c20] at H
                              have c20b0 := eq_true c20
                              have c20b1 : decide (x5_1.size + t8.size ≤ 9223372036854775807) = true := decide_eq_true c20
                              try have c20b2 : (9223372036854775807 < x5_1.size + t8.size) = False := eq_false (Nat.not_lt.2 c20)
                              by_cases c21 : (x5_1 ++ t8).size + t11.size ≤ 9223372036854775807
                              · rw [if_pos c21] at H
                                have c21b0 := eq_true c21
                                have c21b1 : decide ((x5_1 ++ t8).size + t11.size ≤ 9223372036854775807) = true := decide_eq_true c21
                                try have c21b2 : (9223372036854775807 < (x5_1 ++ t8).size + t11.size) = False := eq_false (Nat.not_lt.2 c21)
                                have c21_jn0 : (x5_1.size + t8.size + t11.size ≤ 9223372036854775807) = True := eq_true (by have z_ := c21; simp only [ByteArray.size_append] at z_; exact z_)
                                have c21_jn1 : (9223372036854775807 < x5_1.size + t8.size + t11.size) = False := eq_false (Nat.not_lt.2 (by have z_ := c21; simp only [ByteArray.size_append] at z_; exact z_))
                                by_cases c22 : ((x5_1 ++ t8) ++ t11).size + 1 ≤ 9223372036854775807
                                · rw [if_pos c22] at H
                                  have c22b0 := eq_true c22
                                  have c22b1 : decide (((x5_1 ++ t8) ++ t11).size + 1 ≤ 9223372036854775807) = true := decide_eq_true c22
                                  try have c22b2 : (9223372036854775807 < ((x5_1 ++ t8) ++ t11).size + 1) = False := eq_false (Nat.not_lt.2 c22)
                                  have c22_jn0 : (x5_1.size + t8.size + t11.size + 1 ≤ 9223372036854775807) = True := eq_true (by have z_ := c22; simp only [ByteArray.size_append] at z_; exact z_)
                                  have c22_jn1 : (9223372036854775807 < x5_1.size + t8.size + t11.size + 1) = False := eq_false (Nat.not_lt.2 (by have z_ := c22; simp only [ByteArray.size_append] at z_; exact z_))
                                  replace H := Option.bind_eq_some_iff.mp H
                                  obtain ⟨t14, A230, H⟩ := H
                                  replace H : (if (((x5_1 ++ t8) ++ t11) ++ (⟨#[61]⟩ : ByteArray)).size + t14.size ≤ 9223372036854775807 then ((labels_Set.f x6_1 t11 (((rd_T35 l0 x7_1).f1).extract 0 ((ji17) : Int).toNat)).bind fun t15 => (driftnetlaw16_LogfmtBack.l0 kj5 l0 l1 ((((x5_1 ++ t8) ++ t11) ++ (⟨#[61]⟩ : ByteArray)) ++ t14) t15 (wrap64 (x7_1 + 1)))) else (none)) = some r := H
                                  have A23 := Aside0.mk A230
                                  clear A230
                                  by_cases c24 : (((x5_1 ++ t8) ++ t11) ++ (⟨#[61]⟩ : ByteArray)).size + t14.size ≤ 9223372036854775807
                                  · rw [if_pos c24] at H
                                    have c24b0 := eq_true c24
                                    have c24b1 : decide ((((x5_1 ++ t8) ++ t11) ++ (⟨#[61]⟩ : ByteArray)).size + t14.size ≤ 9223372036854775807) = true := decide_eq_true c24
                                    try have c24b2 : (9223372036854775807 < (((x5_1 ++ t8) ++ t11) ++ (⟨#[61]⟩ : ByteArray)).size + t14.size) = False := eq_false (Nat.not_lt.2 c24)
                                    have c24_jn0 : (x5_1.size + t8.size + t11.size + 1 + t14.size ≤ 9223372036854775807) = True := eq_true (by have z_ := c24; simp only [ByteArray.size_append] at z_; exact z_)
                                    have c24_jn1 : (9223372036854775807 < x5_1.size + t8.size + t11.size + 1 + t14.size) = False := eq_false (Nat.not_lt.2 (by have z_ := c24; simp only [ByteArray.size_append] at z_; exact z_))
                                    replace H := Option.bind_eq_some_iff.mp H
                                    obtain ⟨t15, A250, H⟩ := H
                                    replace H : (driftnetlaw16_LogfmtBack.l0 kj5 l0 l1 ((((x5_1 ++ t8) ++ t11) ++ (⟨#[61]⟩ : ByteArray)) ++ t14) t15 (wrap64 (x7_1 + 1))) = some r := H
                                    have A25 := Aside0.mk A250
                                    clear A250
                                    have H' := Aside0.mk H
                                    clear H
                                    have p7 : 0 ≤ (x7_1 : Int) := of_decide_eq_true (by first | (with_reducible assumption) | assumption)
                                    have q7 : x7_1 < (l1.length : Int) := of_decide_eq_true (by first | (with_reducible assumption) | assumption)
                                    obtain ⟨ad7, e7, hx7_0⟩ := Kd.at_int HR1.out x7_1 p7 q7
                                    cases e7
                                    replace hx7_0 := (HB.out.cell (World.block_lt_of_cell? w _ hx7_0)).trans hx7_0
                                    replace p7 := eq_true p7
                                    replace q7 := eq_true q7
                                    try go_wp2_with (first | ((with_reducible refine gate_callee (f := 15) rfl ?_); refine goesL_ (some 33) rfl rfl Tryz.func15 (by kernel_rfl) rfl #[.int .i64 (rd l1 x7_1)] rfl (by (try simp only [List.map_toArray, List.map_cons, List.map_nil]); first | done | rfl | (simp only [List.length_drop, List.length_take]; rfl)) ?_; (with_reducible refine (driftnetlaw16_blanks.calls (rd l1 x7_1) t8 _ A11.out).mono ?_); rintro e w26 ⟨rfl, hb⟩; refine ⟨_, rfl, ?_⟩; have n0_ := Aside0.mk (Kd.R_below (by (with_reducible repeat (first | apply Kd.R_alloc | apply Kd.R_drewN | apply Kd.R_drew)); exact HO_6.out) hb); have n1_ := Aside0.mk (below_step (by repeat (first | (with_reducible first | exact HB.out | apply below_alloc | apply pw_below_drewN | apply below_drew1) | exact HB.out)) hb); clear HO_6; clear HB; have HO_6 := n0_; have HB := n1_; clear n0_ n1_; (try clear hb); (try clear hb2); (try clear hk); (try clear hi)))
                                    have n0_ := Aside0.mk (Kd.R_drew HO_6.out)
                                    have n1_ := Aside0.mk (below_drew1 HB.out)
                                    clear HO_6
                                    clear HB
                                    have HO_6 := n0_
                                    have HB := n1_
                                    clear n0_ n1_
                                    have p9 : 0 ≤ (x7_1 : Int) := of_decide_eq_true (by first | (with_reducible assumption) | assumption)
                                    have q9 : x7_1 < (l0.length : Int) := of_decide_eq_true (by first | (with_reducible assumption) | assumption)
                                    obtain ⟨ad9, e9, hx9_0, hx9_1⟩ := at_T35 HR0.out x7_1 p9 q9
                                    have hw9_1 := hx9_1
                                    have hw9_0 := hx9_0
                                    cases e9
                                    replace hx9_0 := (HB.out.cell (World.block_lt_of_cell? w _ hx9_0)).trans hx9_0
                                    replace hx9_1 := (HB.out.cell (World.block_lt_of_cell? w _ hx9_1)).trans hx9_1
                                    replace p9 := eq_true p9
                                    replace q9 := eq_true q9
                                    have p10 : 0 ≤ (x7_1 : Int) := of_decide_eq_true (by first | (with_reducible assumption) | assumption)
                                    have q10 : x7_1 < (l0.length : Int) := of_decide_eq_true (by first | (with_reducible assumption) | assumption)
                                    obtain ⟨ad10, e10, hx10_0, hx10_1⟩ := at_T35 HR0.out x7_1 p10 q10
                                    have hw10_1 := hx10_1
                                    have hw10_0 := hx10_0
                                    obtain rfl : ad9 = ad10 := (by injection e10)
                                    replace hx10_0 := (HB.out.cell (World.block_lt_of_cell? w _ hx10_0)).trans hx10_0
                                    replace hx10_1 := (HB.out.cell (World.block_lt_of_cell? w _ hx10_1)).trans hx10_1
                                    replace p10 := eq_true p10
                                    replace q10 := eq_true q10
                                    have p12 : 0 ≤ (x7_1 : Int) := of_decide_eq_true (by first | (with_reducible assumption) | assumption)
                                    have q12 : x7_1 < (l0.length : Int) := of_decide_eq_true (by first | (with_reducible assumption) | assumption)
                                    obtain ⟨ad12, e12, hx12_0, hx12_1⟩ := at_T35 HR0.out x7_1 p12 q12
                                    have hw12_1 := hx12_1
                                    have hw12_0 := hx12_0
                                    obtain rfl : ad9 = ad12 := (by injection e12)
                                    replace hx12_0 := (HB.out.cell (World.block_lt_of_cell? w _ hx12_0)).trans hx12_0
                                    replace hx12_1 := (HB.out.cell (World.block_lt_of_cell? w _ hx12_1)).trans hx12_1
                                    replace p12 := eq_true p12
                                    replace q12 := eq_true q12
                                    have p13 : 0 ≤ (x7_1 : Int) := of_decide_eq_true (by first | (with_reducible assumption) | assumption)
                                    have q13 : x7_1 < (l0.length : Int) := of_decide_eq_true (by first | (with_reducible assumption) | assumption)
                                    obtain ⟨ad13, e13, hx13_0, hx13_1⟩ := at_T35 HR0.out x7_1 p13 q13
                                    have hw13_1 := hx13_1
                                    have hw13_0 := hx13_0
                                    obtain rfl : ad9 = ad13 := (by injection e13)
                                    replace hx13_0 := (HB.out.cell (World.block_lt_of_cell? w _ hx13_0)).trans hx13_0
                                    replace hx13_1 := (HB.out.cell (World.block_lt_of_cell? w _ hx13_1)).trans hx13_1
                                    replace p13 := eq_true p13
                                    replace q13 := eq_true q13
                                    refine start_ (n := 29) (S := fun w' => w'.cell? (ad9.add ((x7_1).toNat * 2)) = some (.string ((rd_T35 l0 x7_1).f0)) ∧ w'.cell? ⟨(ad9.add ((x7_1).toNat * 2)).block, (ad9.add ((x7_1).toNat * 2)).off + 1, none⟩ = some (.string ((rd_T35 l0 x7_1).f1)) ∧ w'.cell? (ad9.add ((x7_1).toNat * 2)) = some (.string ((rd_T35 l0 x7_1).f0)) ∧ w'.cell? ⟨(ad9.add ((x7_1).toNat * 2)).block, (ad9.add ((x7_1).toNat * 2)).off + 1, none⟩ = some (.string ((rd_T35 l0 x7_1).f1)) ∧ w'.cell? (ad9.add ((x7_1).toNat * 2)) = some (.string ((rd_T35 l0 x7_1).f0)) ∧ w'.cell? ⟨(ad9.add ((x7_1).toNat * 2)).block, (ad9.add ((x7_1).toNat * 2)).off + 1, none⟩ = some (.string ((rd_T35 l0 x7_1).f1)) ∧ w'.cell? (ad9.add ((x7_1).toNat * 2)) = some (.string ((rd_T35 l0 x7_1).f0)) ∧ w'.cell? ⟨(ad9.add ((x7_1).toNat * 2)).block, (ad9.add ((x7_1).toNat * 2)).off + 1, none⟩ = some (.string ((rd_T35 l0 x7_1).f1))) (ds := []) #[false, false, false, false, false, false, false, false, false, false, false, false, false, false, false, false, false, false, false, false, false, false, false, false, false, false, false, false, false] (by kernel_rfl) rfl rfl ⟨((HB.out.cell (World.block_lt_of_cell? w _ hw9_0)).trans hw9_0), ((HB.out.cell (World.block_lt_of_cell? w _ hw9_1)).trans hw9_1), ((HB.out.cell (World.block_lt_of_cell? w _ hw10_0)).trans hw10_0), ((HB.out.cell (World.block_lt_of_cell? w _ hw10_1)).trans hw10_1), ((HB.out.cell (World.block_lt_of_cell? w _ hw12_0)).trans hw12_0), ((HB.out.cell (World.block_lt_of_cell? w _ hw12_1)).trans hw12_1), ((HB.out.cell (World.block_lt_of_cell? w _ hw13_0)).trans hw13_0), ((HB.out.cell (World.block_lt_of_cell? w _ hw13_1)).trans hw13_1)⟩ (fun hHeld => ?_); refine with_tabW driftnetlaw16_LogfmtBack.tab11 driftnetlaw16_LogfmtBack.bits11 (fun HT_ HW_ => ?_)
                                    generalize w26.drew = w27 at HO_6 HB hx10_0 hx10_1 hx12_0 hx12_1 hx13_0 hx13_1 hx9_0 hx9_1 hHeld ⊢
                                    refine pure_ (i := 0) (N := some 34) (v := ?_) (a' := ?_) #[true, false, false, false, false, false, false, false, false, false, false, false, false, false, false, false, false, false, false, false, false, false, false, false, false, false, false, false, false] rfl rfl (any_of HT_.out (by kernel_rfl)) (fun _ _ _ h => h) (Or.inl ⟨by rfl, ?_⟩) ?_ ?_
                                    rotate_left
                                    · intro w'
                                      go_simp
                                      with_reducible rfl
                                    rotate_left
                                    · simp only [Act.put, List.setIfInBounds_toArray, List.set_cons_zero, List.set_cons_succ, i64_w, i32_w]
                                      rfl
                                    refine pure_ (i := 1) (N := some 35) (v := ?_) (a' := ?_) #[true, true, false, false, false, false, false, false, false, false, false, false, false, false, false, false, false, false, false, false, false, false, false, false, false, false, false, false, false] rfl rfl (any_of HT_.out (by kernel_rfl)) (fun _ _ _ h => h) (Or.inl ⟨by rfl, ?_⟩) ?_ ?_
                                    rotate_left
                                    · intro w'
                                      go_simp
                                      with_reducible rfl
                                    rotate_left
                                    · simp only [Act.put, List.setIfInBounds_toArray, List.set_cons_zero, List.set_cons_succ, i64_w, i32_w]
                                      rfl
                                    refine pure_ (i := 2) (N := some 36) (v := ?_) (a' := ?_) #[true, true, true, false, false, false, false, false, false, false, false, false, false, false, false, false, false, false, false, false, false, false, false, false, false, false, false, false, false] rfl rfl (any_of HT_.out (by kernel_rfl)) (fun _ _ _ h => h) (Or.inl ⟨by rfl, ?_⟩) ?_ ?_
                                    rotate_left
                                    · intro w'
                                      go_simp
                                      with_reducible rfl
                                    rotate_left
                                    · simp only [Act.put, List.setIfInBounds_toArray, List.set_cons_zero, List.set_cons_succ, i64_w, i32_w]
                                      rfl
                                    refine pure_ (i := 3) (N := some 37) (v := ?_) (a' := ?_) #[true, true, true, true, false, false, false, false, false, false, false, false, false, false, false, false, false, false, false, false, false, false, false, false, false, false, false, false, false] rfl rfl (any_of HT_.out (by kernel_rfl)) (fun _ _ _ h => h) (Or.inl ⟨by rfl, ?_⟩) ?_ ?_
                                    rotate_left
                                    · intro w'
                                      go_simp
                                      with_reducible rfl
                                    rotate_left
                                    · simp only [Act.put, List.setIfInBounds_toArray, List.set_cons_zero, List.set_cons_succ, i64_w, i32_w]
                                      rfl
                                    refine pure_ (i := 5) (N := some 39) (v := ?_) (a' := ?_) #[true, true, true, true, false, true, false, false, false, false, false, false, false, false, false, false, false, false, false, false, false, false, false, false, false, false, false, false, false] rfl rfl (any_of HT_.out (by kernel_rfl)) (fun _ _ _ h => h) (Or.inl ⟨by rfl, ?_⟩) ?_ ?_
                                    rotate_left
                                    · intro w'
                                      go_simp
                                      with_reducible rfl
                                    rotate_left
                                    · simp only [Act.put, List.setIfInBounds_toArray, List.set_cons_zero, List.set_cons_succ, i64_w, i32_w]
                                      rfl
                                    refine pure_ (i := 6) (N := some 40) (v := ?_) (a' := ?_) #[true, true, true, true, false, true, true, false, false, false, false, false, false, false, false, false, false, false, false, false, false, false, false, false, false, false, false, false, false] rfl rfl (any_of HT_.out (by kernel_rfl)) (fun _ _ _ h => h) (Or.inl ⟨by rfl, ?_⟩) ?_ ?_
                                    rotate_left
                                    · intro w'
                                      go_simp
                                      with_reducible rfl
                                    rotate_left
                                    · simp only [Act.put, List.setIfInBounds_toArray, List.set_cons_zero, List.set_cons_succ, i64_w, i32_w]
                                      rfl
                                    refine pure_ (i := 7) (N := some 41) (v := ?_) (a' := ?_) #[true, true, true, true, false, true, true, true, false, false, false, false, false, false, false, false, false, false, false, false, false, false, false, false, false, false, false, false, false] rfl rfl (any_of HT_.out (by kernel_rfl)) (fun _ _ _ h => h) (Or.inl ⟨by rfl, ?_⟩) ?_ ?_
                                    rotate_left
                                    · intro w'
                                      go_simp
                                      with_reducible rfl
                                    rotate_left
                                    · simp only [Act.put, List.setIfInBounds_toArray, List.set_cons_zero, List.set_cons_succ, i64_w, i32_w]
                                      rfl
                                    refine pure_ (i := 8) (N := some 42) (v := ?_) (a' := ?_) #[true, true, true, true, false, true, true, true, true, false, false, false, false, false, false, false, false, false, false, false, false, false, false, false, false, false, false, false, false] rfl rfl (any_of HT_.out (by kernel_rfl)) (fun _ _ _ h => h) (Or.inl ⟨by rfl, ?_⟩) ?_ ?_
                                    rotate_left
                                    · intro w'
                                      go_simp
                                      with_reducible rfl
                                    rotate_left
                                    · simp only [Act.put, List.setIfInBounds_toArray, List.set_cons_zero, List.set_cons_succ, i64_w, i32_w]
                                      rfl
                                    refine pure_ (i := 14) (N := some 48) (v := ?_) (a' := ?_) #[true, true, true, true, false, true, true, true, true, false, false, false, false, false, true, false, false, false, false, false, false, false, false, false, false, false, false, false, false] rfl rfl (any_of HT_.out (by kernel_rfl)) (fun _ _ _ h => h) (Or.inl ⟨by rfl, ?_⟩) ?_ ?_
                                    rotate_left
                                    · intro w'
                                      go_simp
                                      with_reducible rfl
                                    rotate_left
                                    · simp only [Act.put, List.setIfInBounds_toArray, List.set_cons_zero, List.set_cons_succ, i64_w, i32_w]
                                      rfl
                                    refine pure_ (i := 15) (N := some 49) (v := ?_) (a' := ?_) #[true, true, true, true, false, true, true, true, true, false, false, false, false, false, true, true, false, false, false, false, false, false, false, false, false, false, false, false, false] rfl rfl (any_of HT_.out (by kernel_rfl)) (fun _ _ _ h => h) (Or.inl ⟨by rfl, ?_⟩) ?_ ?_
                                    rotate_left
                                    · intro w'
                                      go_simp
                                      with_reducible rfl
                                    rotate_left
                                    · simp only [Act.put, List.setIfInBounds_toArray, List.set_cons_zero, List.set_cons_succ, i64_w, i32_w]
                                      rfl
                                    refine pure_ (i := 16) (N := some 50) (v := ?_) (a' := ?_) #[true, true, true, true, false, true, true, true, true, false, false, false, false, false, true, true, true, false, false, false, false, false, false, false, false, false, false, false, false] rfl rfl (any_of HT_.out (by kernel_rfl)) (fun _ _ _ h => h) (Or.inl ⟨by rfl, ?_⟩) ?_ ?_
                                    rotate_left
                                    · intro w'
                                      go_simp
                                      with_reducible rfl
                                    rotate_left
                                    · simp only [Act.put, List.setIfInBounds_toArray, List.set_cons_zero, List.set_cons_succ, i64_w, i32_w]
                                      rfl
                                    refine pure_ (i := 17) (N := some 51) (v := ?_) (a' := ?_) #[true, true, true, true, false, true, true, true, true, false, false, false, false, false, true, true, true, true, false, false, false, false, false, false, false, false, false, false, false] rfl rfl (any_of HT_.out (by kernel_rfl)) (fun _ _ _ h => h) (Or.inl ⟨by rfl, ?_⟩) ?_ ?_
                                    rotate_left
                                    · intro w'
                                      go_simp
                                      with_reducible rfl
                                    rotate_left
                                    · simp only [Act.put, List.setIfInBounds_toArray, List.set_cons_zero, List.set_cons_succ, i64_w, i32_w]
                                      rfl
                                    refine pure_ (i := 19) (N := some 53) (v := ?_) (a' := ?_) #[true, true, true, true, false, true, true, true, true, false, false, false, false, false, true, true, true, true, false, true, false, false, false, false, false, false, false, false, false] rfl rfl (any_of HT_.out (by kernel_rfl)) (fun _ _ _ h => h) (Or.inl ⟨by rfl, ?_⟩) ?_ ?_
                                    rotate_left
                                    · intro w'
                                      go_simp
                                      with_reducible rfl
                                    rotate_left
                                    · simp only [Act.put, List.setIfInBounds_toArray, List.set_cons_zero, List.set_cons_succ, i64_w, i32_w]
                                      rfl
                                    refine pure_ (i := 20) (N := some 54) (v := ?_) (a' := ?_) #[true, true, true, true, false, true, true, true, true, false, false, false, false, false, true, true, true, true, false, true, true, false, false, false, false, false, false, false, false] rfl rfl (any_of HT_.out (by kernel_rfl)) (fun _ _ _ h => h) (Or.inl ⟨by rfl, ?_⟩) ?_ ?_
                                    rotate_left
                                    · intro w'
                                      go_simp
                                      with_reducible rfl
                                    rotate_left
                                    · simp only [Act.put, List.setIfInBounds_toArray, List.set_cons_zero, List.set_cons_succ, i64_w, i32_w]
                                      rfl
                                    refine pure_ (i := 21) (N := some 55) (v := ?_) (a' := ?_) #[true, true, true, true, false, true, true, true, true, false, false, false, false, false, true, true, true, true, false, true, true, true, false, false, false, false, false, false, false] rfl rfl (any_of HT_.out (by kernel_rfl)) (fun _ _ _ h => h) (Or.inl ⟨by rfl, ?_⟩) ?_ ?_
                                    rotate_left
                                    · intro w'
                                      go_simp
                                      with_reducible rfl
                                    rotate_left
                                    · simp only [Act.put, List.setIfInBounds_toArray, List.set_cons_zero, List.set_cons_succ, i64_w, i32_w]
                                      rfl
                                    refine pure_ (i := 22) (N := some 56) (v := ?_) (a' := ?_) #[true, true, true, true, false, true, true, true, true, false, false, false, false, false, true, true, true, true, false, true, true, true, true, false, false, false, false, false, false] rfl rfl (any_of HT_.out (by kernel_rfl)) (fun _ _ _ h => h) (Or.inl ⟨by rfl, ?_⟩) ?_ ?_
                                    rotate_left
                                    · intro w'
                                      go_simp
                                      with_reducible rfl
                                    rotate_left
                                    · simp only [Act.put, List.setIfInBounds_toArray, List.set_cons_zero, List.set_cons_succ, i64_w, i32_w]
                                      rfl
                                    refine take_ (i := 4) (N := some 38) (v := ?_) (a' := ?_) #[true, true, true, true, true, true, true, true, true, false, false, false, false, false, true, true, true, true, false, true, true, true, true, false, false, false, false, false, false] rfl rfl (take_ofW HT_.out HW_.out (by kernel_rfl)) (fun _ _ _ h => h) (Or.inl ⟨by rfl, ?_⟩) hHeld ?_ ?_
                                    rotate_left
                                    · rintro w' ⟨s0, s1, s2, s3, s4, s5, s6, s7⟩
                                      go_simp
                                      with_reducible rfl
                                    rotate_left
                                    · simp only [Act.put, List.setIfInBounds_toArray, List.set_cons_zero, List.set_cons_succ, i64_w, i32_w]
                                      rfl
                                    refine take_ (i := 9) (N := some 43) (v := ?_) (a' := ?_) #[true, true, true, true, true, true, true, true, true, true, false, false, false, false, true, true, true, true, false, true, true, true, true, false, false, false, false, false, false] rfl rfl (take_ofW HT_.out HW_.out (by kernel_rfl)) (fun _ _ _ h => h) (Or.inl ⟨by rfl, ?_⟩) hHeld ?_ ?_
                                    rotate_left
                                    · rintro w' ⟨s0, s1, s2, s3, s4, s5, s6, s7⟩
                                      go_simp
                                      with_reducible rfl
                                    rotate_left
                                    · simp only [Act.put, List.setIfInBounds_toArray, List.set_cons_zero, List.set_cons_succ, i64_w, i32_w]
                                      rfl
                                    refine pure_ (i := 10) (N := some 44) (v := ?_) (a' := ?_) #[true, true, true, true, true, true, true, true, true, true, true, false, false, false, true, true, true, true, false, true, true, true, true, false, false, false, false, false, false] rfl rfl (any_of HT_.out (by kernel_rfl)) (fun _ _ _ h => h) (Or.inl ⟨by rfl, ?_⟩) ?_ ?_
                                    rotate_left
                                    · intro w'
                                      go_simp
                                      with_reducible rfl
                                    rotate_left
                                    · simp only [Act.put, List.setIfInBounds_toArray, List.set_cons_zero, List.set_cons_succ, i64_w, i32_w]
                                      rfl
                                    refine pure_ (i := 11) (N := some 45) (v := ?_) (a' := ?_) #[true, true, true, true, true, true, true, true, true, true, true, true, false, false, true, true, true, true, false, true, true, true, true, false, false, false, false, false, false] rfl rfl (any_of HT_.out (by kernel_rfl)) (fun _ _ _ h => h) (Or.inl ⟨by rfl, ?_⟩) ?_ ?_
                                    rotate_left
                                    · intro w'
                                      go_simp
                                      with_reducible rfl
                                    rotate_left
                                    · simp only [Act.put, List.setIfInBounds_toArray, List.set_cons_zero, List.set_cons_succ, i64_w, i32_w]
                                      rfl
                                    refine pure_ (i := 12) (N := some 46) (v := ?_) (a' := ?_) #[true, true, true, true, true, true, true, true, true, true, true, true, true, false, true, true, true, true, false, true, true, true, true, false, false, false, false, false, false] rfl rfl (any_of HT_.out (by kernel_rfl)) (fun _ _ _ h => h) (Or.inl ⟨by rfl, ?_⟩) ?_ ?_
                                    rotate_left
                                    · intro w'
                                      go_simp
                                      with_reducible rfl
                                    rotate_left
                                    · simp only [Act.put, List.setIfInBounds_toArray, List.set_cons_zero, List.set_cons_succ, i64_w, i32_w]
                                      rfl
                                    refine take_ (i := 18) (N := some 52) (v := ?_) (a' := ?_) #[true, true, true, true, true, true, true, true, true, true, true, true, true, false, true, true, true, true, true, true, true, true, true, false, false, false, false, false, false] rfl rfl (take_ofW HT_.out HW_.out (by kernel_rfl)) (fun _ _ _ h => h) (Or.inl ⟨by rfl, ?_⟩) hHeld ?_ ?_
                                    rotate_left
                                    · rintro w' ⟨s0, s1, s2, s3, s4, s5, s6, s7⟩
                                      go_simp
                                      with_reducible rfl
                                    rotate_left
                                    · simp only [Act.put, List.setIfInBounds_toArray, List.set_cons_zero, List.set_cons_succ, i64_w, i32_w]
                                      rfl
                                    refine take_ (i := 23) (N := some 57) (v := ?_) (a' := ?_) #[true, true, true, true, true, true, true, true, true, true, true, true, true, false, true, true, true, true, true, true, true, true, true, true, false, false, false, false, false] rfl rfl (take_ofW HT_.out HW_.out (by kernel_rfl)) (fun _ _ _ h => h) (Or.inl ⟨by rfl, ?_⟩) hHeld ?_ ?_
                                    rotate_left
                                    · rintro w' ⟨s0, s1, s2, s3, s4, s5, s6, s7⟩
                                      go_simp
                                      with_reducible rfl
                                    rotate_left
                                    · simp only [Act.put, List.setIfInBounds_toArray, List.set_cons_zero, List.set_cons_succ, i64_w, i32_w]
                                      rfl
                                    refine pure_ (i := 24) (N := some 58) (v := ?_) (a' := ?_) #[true, true, true, true, true, true, true, true, true, true, true, true, true, false, true, true, true, true, true, true, true, true, true, true, true, false, false, false, false] rfl rfl (any_of HT_.out (by kernel_rfl)) (fun _ _ _ h => h) (Or.inl ⟨by rfl, ?_⟩) ?_ ?_
                                    rotate_left
                                    · intro w'
                                      go_simp
                                      with_reducible rfl
                                    rotate_left
                                    · simp only [Act.put, List.setIfInBounds_toArray, List.set_cons_zero, List.set_cons_succ, i64_w, i32_w]
                                      rfl
                                    refine pure_ (i := 25) (N := some 59) (v := ?_) (a' := ?_) #[true, true, true, true, true, true, true, true, true, true, true, true, true, false, true, true, true, true, true, true, true, true, true, true, true, true, false, false, false] rfl rfl (any_of HT_.out (by kernel_rfl)) (fun _ _ _ h => h) (Or.inl ⟨by rfl, ?_⟩) ?_ ?_
                                    rotate_left
                                    · intro w'
                                      go_simp
                                      with_reducible rfl
                                    rotate_left
                                    · simp only [Act.put, List.setIfInBounds_toArray, List.set_cons_zero, List.set_cons_succ, i64_w, i32_w]
                                      rfl
                                    refine pure_ (i := 26) (N := some 60) (v := ?_) (a' := ?_) #[true, true, true, true, true, true, true, true, true, true, true, true, true, false, true, true, true, true, true, true, true, true, true, true, true, true, true, false, false] rfl rfl (any_of HT_.out (by kernel_rfl)) (fun _ _ _ h => h) (Or.inl ⟨by rfl, ?_⟩) ?_ ?_
                                    rotate_left
                                    · intro w'
                                      go_simp
                                      with_reducible rfl
                                    rotate_left
                                    · simp only [Act.put, List.setIfInBounds_toArray, List.set_cons_zero, List.set_cons_succ, i64_w, i32_w]
                                      rfl
                                    refine one_ (i := 13) (N := some 47) #[true, true, true, true, true, true, true, true, true, true, true, true, true, true, true, true, true, true, true, true, true, true, true, true, true, true, true, false, false] rfl rfl (one_of HT_.out (by kernel_rfl)) (by decide) (fun K hK => ?_)
                                    refine goes_ Tryz.func17 (by kernel_rfl) rfl #[.string (((rd_T35 l0 x7_1).f0).extract 0 ((ji13) : Int).toNat)] (by rfl) rfl rfl (by (try simp only [List.map_toArray, List.map_cons, List.map_nil]); first | done | (simp only [hji13]; rfl) | rfl | (simp only [List.length_drop, List.length_take]; rfl)) ?_
                                    with_reducible refine (labels_Clean.calls (((rd_T35 l0 x7_1).f0).extract 0 ((ji13) : Int).toNat) t11 _ A16.out).mono ?_
                                    rintro e w28 ⟨rfl, hb⟩
                                    refine ⟨_, rfl, ?_⟩
                                    have n0_ := Aside0.mk (Kd.R_below (by (with_reducible repeat (first | apply Kd.R_alloc | apply Kd.R_drewN | apply Kd.R_drew)); exact HO_6.out) hb)
                                    have n1_ := Aside0.mk (below_step (by repeat (first | (with_reducible first | exact HB.out | apply below_alloc | apply pw_below_drewN | apply below_drew1) | exact HB.out)) hb)
                                    clear HO_6
                                    clear HB
                                    have HO_6 := n0_
                                    have HB := n1_
                                    clear n0_ n1_
                                    (try clear hb)
                                    (try clear hb2)
                                    (try clear hk)
                                    (try clear hi)
                                    refine hK.out _ _ ⟨((HB.out.cell (World.block_lt_of_cell? w _ hw9_0)).trans hw9_0), ((HB.out.cell (World.block_lt_of_cell? w _ hw9_1)).trans hw9_1), ((HB.out.cell (World.block_lt_of_cell? w _ hw10_0)).trans hw10_0), ((HB.out.cell (World.block_lt_of_cell? w _ hw10_1)).trans hw10_1), ((HB.out.cell (World.block_lt_of_cell? w _ hw12_0)).trans hw12_0), ((HB.out.cell (World.block_lt_of_cell? w _ hw12_1)).trans hw12_1), ((HB.out.cell (World.block_lt_of_cell? w _ hw13_0)).trans hw13_0), ((HB.out.cell (World.block_lt_of_cell? w _ hw13_1)).trans hw13_1)⟩ (fun hHeld => ?_)
                                    clear hK K
                                    refine norm_ (a' := ?_) ?_ ?_
                                    rotate_left
                                    · show Act.put _ (some 47) _ = _
                                      simp only [Act.put, List.setIfInBounds_toArray, List.set_cons_zero, List.set_cons_succ, i64_w, i32_w]
                                      rfl
                                    refine pure_ (i := 27) (N := some 9) (v := ?_) (a' := ?_) #[true, true, true, true, true, true, true, true, true, true, true, true, true, true, true, true, true, true, true, true, true, true, true, true, true, true, true, true, false] rfl rfl (any_of HT_.out (by kernel_rfl)) (fun _ _ _ h => h) (Or.inl ⟨by rfl, ?_⟩) ?_ ?_
                                    rotate_left
                                    · intro w'
                                      go_simp
                                      with_reducible rfl
                                    rotate_left
                                    · simp only [Act.put, List.setIfInBounds_toArray, List.set_cons_zero, List.set_cons_succ, i64_w, i32_w]
                                      rfl
                                    refine pure_ (i := 28) (N := some 10) (v := ?_) (a' := ?_) #[true, true, true, true, true, true, true, true, true, true, true, true, true, true, true, true, true, true, true, true, true, true, true, true, true, true, true, true, true] rfl rfl (any_of HT_.out (by kernel_rfl)) (fun _ _ _ h => h) (Or.inl ⟨by rfl, ?_⟩) ?_ ?_
                                    rotate_left
                                    · intro w'
                                      go_simp
                                      with_reducible rfl
                                    rotate_left
                                    · simp only [Act.put, List.setIfInBounds_toArray, List.set_cons_zero, List.set_cons_succ, i64_w, i32_w]
                                      rfl
                                    refine done_ (done_of HT_.out (by kernel_rfl)) ?_
                                    try go_wp2_with (first | ((with_reducible refine gate_callee (f := 18) rfl ?_); refine goesL_ (some 68) rfl rfl Tryz.func18 (by kernel_rfl) rfl #[.string (((rd_T35 l0 x7_1).f1).extract 0 ((ji17) : Int).toNat)] rfl (by (try simp only [List.map_toArray, List.map_cons, List.map_nil]); first | done | (simp only [hji17]; rfl) | rfl | (simp only [List.length_drop, List.length_take]; rfl)) ?_; (with_reducible refine (quote_Quote.calls (((rd_T35 l0 x7_1).f1).extract 0 ((ji17) : Int).toNat) t14 _ ?side1 A23.out).mono ?_); (case side1 => exact G.at hG.out (by repeat (first | (with_reducible first | exact HB.out | apply below_alloc | apply pw_below_drewN | apply below_drew1) | exact HB.out))); rintro e w29 ⟨rfl, hb⟩; refine ⟨_, rfl, ?_⟩; have n0_ := Aside0.mk (Kd.R_below (by (with_reducible repeat (first | apply Kd.R_alloc | apply Kd.R_drewN | apply Kd.R_drew)); exact HO_6.out) hb); have n1_ := Aside0.mk (below_step (by repeat (first | (with_reducible first | exact HB.out | apply below_alloc | apply pw_below_drewN | apply below_drew1) | exact HB.out)) hb); clear HO_6; clear HB; have HO_6 := n0_; have HB := n1_; clear n0_ n1_; (try clear hb); (try clear hb2); (try clear hk); (try clear hi); obtain ⟨Ao30, co30, eo30⟩ := Kd.R_slice HO_6.out; subst eo30) | ((with_reducible refine gate_callee (f := 12) rfl ?_); refine goesL_ (some 73) rfl rfl Tryz.func12 (by kernel_rfl) rfl #[.slice Ao30 x6_1.length co30, .string t11, .string (((rd_T35 l0 x7_1).f1).extract 0 ((ji17) : Int).toNat)] rfl (by (try simp only [List.map_toArray, List.map_cons, List.map_nil]); first | done | (simp only [hji17]; rfl) | rfl | (simp only [List.length_drop, List.length_take]; rfl)) ?_; (with_reducible refine (labels_Set.calls _ _ x6_1 t11 (((rd_T35 l0 x7_1).f1).extract 0 ((ji17) : Int).toNat) t15 _ ?side1 ?side2 A25.out).mono ?_); (case side1 => repeat (first | exact (Kd.R_reads' HO_6.out).2.2 | (with_reducible refine Kd.C_alloc ?_ _) | (with_reducible refine Kd.C_drewN ?_ _) | (with_reducible refine Kd.C_drew ?_))); (case side2 => exact (Kd.R_reads' HO_6.out).2.1); rintro e w31 ⟨v16, rfl, ho0, hb⟩; refine ⟨_, rfl, ?_⟩; have n0_ := Aside0.mk (Kd.R_elder' (by (with_reducible repeat (first | apply Kd.R_alloc | apply Kd.R_drewN | apply Kd.R_drew)); exact HO_6.out) (Kd.R_base ho0) hb); have n1_ := Aside0.mk (Kd.R_lower (Kd.R_new' ho0 (Kd.R_lt (by (with_reducible repeat (first | apply Kd.R_alloc | apply Kd.R_drewN | apply Kd.R_drew)); exact HO_6.out))) (below_size (by repeat (first | (with_reducible first | exact HB.out | apply below_alloc | apply pw_below_drewN | apply below_drew1) | exact HB.out)))); have n2_ := Aside0.mk (below_step (by repeat (first | (with_reducible first | exact HB.out | apply below_alloc | apply pw_below_drewN | apply below_drew1) | exact HB.out)) hb); clear HO_6; clear HB; have HO_6 := n0_; have HO17 := n1_; have HB := n2_; clear n0_ n1_ n2_; (try clear hb); (try clear hb2); (try clear hk); (try clear hi); (try clear ho0)))
                                    go_roundg kj5
                                    case measure => have := HK1.out; have := HJ5.out; omega
                                    case rel => exact ⟨((((x5_1 ++ t8) ++ t11) ++ (⟨#[61]⟩ : ByteArray)) ++ t14), (t15), (wrap64 (x7_1 + 1)), (by first | rfl | (simp; done) | (simp [*]; done)), (by first | rfl | (simp; done) | (simp [*]; done)), H', ⟨by have := HK1.out; have := HJ5.out; omega⟩, ⟨by (with_reducible repeat (first | apply Kd.R_alloc | apply Kd.R_drewN | apply Kd.R_drew)); exact Kd.R_mono HO17.out (fun _ hk => trivial)⟩, ⟨by repeat (first | (with_reducible first | exact HB.out | apply below_alloc | apply pw_below_drewN | apply below_drew1) | exact HB.out)⟩⟩
                                  · rw [if_neg c24] at H
                                    exact absurd H (by simp)
                                · rw [if_neg c22] at H
                                  exact absurd H (by simp)
                              · rw [if_neg c21] at H
                                exact absurd H (by simp)
                            · rw [if_neg c20] at H
                              exact absurd H (by simp)
                          · rw [if_neg c19] at H
                            exact absurd H (by simp)
                        · rw [if_neg c18] at H
                          exact absurd H (by simp)
                      · rw [if_neg c15] at H
                        exact absurd H (by simp)
                    · rw [if_neg c14] at H
                      exact absurd H (by simp)
                  · rw [if_neg c12] at H
                    exact absurd H (by simp)
                · rw [if_neg c10] at H
                  exact absurd H (by simp)
              · rw [if_neg c9] at H
                have c9b0 : decide (x7_1 < (l1.length : Int)) = false := decide_eq_false c9
                clear c9
                by_cases c32 : 0 ≤ x7_1
                · rw [if_pos c32] at H
                  have c32b0 : decide (0 ≤ x7_1) = true := decide_eq_true c32
                  clear c32
                  by_cases c33 : x7_1 < (l0.length : Int)
                  · rw [if_pos c33] at H
                    have c33b0 : decide (x7_1 < (l0.length : Int)) = true := decide_eq_true c33
                    clear c33
                    obtain ⟨ji34, hji34⟩ : ∃ j_ : Int, (mn (((rd_T35 l0 x7_1).f0).size : Int) 80) = j_ := ⟨_, rfl⟩
                    replace H : (if 0 ≤ (ji34) then (if (ji34) ≤ (((rd_T35 l0 x7_1).f0).size : Int) then ((labels_Clean.f (((rd_T35 l0 x7_1).f0).extract 0 ((ji34) : Int).toNat)).bind fun t20 => (if 0 ≤ (mn (((rd_T35 l0 x7_1).f1).size : Int) 200) then (if (mn (((rd_T35 l0 x7_1).f1).size : Int) 200) ≤ (((rd_T35 l0 x7_1).f1).size : Int) then (if x5_1.size + 1 ≤ 9223372036854775807 then (if (x5_1 ++ (⟨#[32]⟩ : ByteArray)).size + t20.size ≤ 9223372036854775807 then (if ((x5_1 ++ (⟨#[32]⟩ : ByteArray)) ++ t20).size + 1 ≤ 9223372036854775807 then ((quote_Quote.f (((rd_T35 l0 x7_1).f1).extract 0 ((mn (((rd_T35 l0 x7_1).f1).size : Int) 200) : Int).toNat)).bind fun t23 => (if (((x5_1 ++ (⟨#[32]⟩ : ByteArray)) ++ t20) ++ (⟨#[61]⟩ : ByteArray)).size + t23.size ≤ 9223372036854775807 then ((labels_Set.f x6_1 t20 (((rd_T35 l0 x7_1).f1).extract 0 ((mn (((rd_T35 l0 x7_1).f1).size : Int) 200) : Int).toNat)).bind fun t24 => (driftnetlaw16_LogfmtBack.l0 kj5 l0 l1 ((((x5_1 ++ (⟨#[32]⟩ : ByteArray)) ++ t20) ++ (⟨#[61]⟩ : ByteArray)) ++ t23) t24 (wrap64 (x7_1 + 1)))) else (none))) else (none)) else (none)) else (none)) else (none)) else (none))) else (none)) else (none)) = some r := by first | (rw [hji34] at H; exact H) | (simp only [hji34] at H ⊢; exact H)
                    have hji34_ : (if 80 < (((rd_T35 l0 x7_1).f0).size : Int) then 80 else (((rd_T35 l0 x7_1).f0).size : Int)) = ji34 := hji34
                    by_cases c35 : 0 ≤ (ji34)
                    · rw [if_pos c35] at H
                      have c35b0 := eq_true c35
                      have c35b1 : decide (0 ≤ (ji34)) = true := decide_eq_true c35
                      clear c35
                      by_cases c36 : (ji34) ≤ (((rd_T35 l0 x7_1).f0).size : Int)
                      · rw [if_pos c36] at H
                        have c36b0 := eq_true c36
                        have c36b1 : decide ((ji34) ≤ (((rd_T35 l0 x7_1).f0).size : Int)) = true := decide_eq_true c36
                        clear c36
                        replace H := Option.bind_eq_some_iff.mp H
                        obtain ⟨t20, A370, H⟩ := H
                        replace H : (if 0 ≤ (mn (((rd_T35 l0 x7_1).f1).size : Int) 200) then (if (mn (((rd_T35 l0 x7_1).f1).size : Int) 200) ≤ (((rd_T35 l0 x7_1).f1).size : Int) then (if x5_1.size + 1 ≤ 9223372036854775807 then (if (x5_1 ++ (⟨#[32]⟩ : ByteArray)).size + t20.size ≤ 9223372036854775807 then (if ((x5_1 ++ (⟨#[32]⟩ : ByteArray)) ++ t20).size + 1 ≤ 9223372036854775807 then ((quote_Quote.f (((rd_T35 l0 x7_1).f1).extract 0 ((mn (((rd_T35 l0 x7_1).f1).size : Int) 200) : Int).toNat)).bind fun t23 => (if (((x5_1 ++ (⟨#[32]⟩ : ByteArray)) ++ t20) ++ (⟨#[61]⟩ : ByteArray)).size + t23.size ≤ 9223372036854775807 then ((labels_Set.f x6_1 t20 (((rd_T35 l0 x7_1).f1).extract 0 ((mn (((rd_T35 l0 x7_1).f1).size : Int) 200) : Int).toNat)).bind fun t24 => (driftnetlaw16_LogfmtBack.l0 kj5 l0 l1 ((((x5_1 ++ (⟨#[32]⟩ : ByteArray)) ++ t20) ++ (⟨#[61]⟩ : ByteArray)) ++ t23) t24 (wrap64 (x7_1 + 1)))) else (none))) else (none)) else (none)) else (none)) else (none)) else (none)) = some r := H
                        have A37 := Aside0.mk A370
                        clear A370
                        obtain ⟨ji38, hji38⟩ : ∃ j_ : Int, (mn (((rd_T35 l0 x7_1).f1).size : Int) 200) = j_ := ⟨_, rfl⟩
                        replace H : (if 0 ≤ (ji38) then (if (ji38) ≤ (((rd_T35 l0 x7_1).f1).size : Int) then (if x5_1.size + 1 ≤ 9223372036854775807 then (if (x5_1 ++ (⟨#[32]⟩ : ByteArray)).size + t20.size ≤ 9223372036854775807 then (if ((x5_1 ++ (⟨#[32]⟩ : ByteArray)) ++ t20).size + 1 ≤ 9223372036854775807 then ((quote_Quote.f (((rd_T35 l0 x7_1).f1).extract 0 ((ji38) : Int).toNat)).bind fun t23 => (if (((x5_1 ++ (⟨#[32]⟩ : ByteArray)) ++ t20) ++ (⟨#[61]⟩ : ByteArray)).size + t23.size ≤ 9223372036854775807 then ((labels_Set.f x6_1 t20 (((rd_T35 l0 x7_1).f1).extract 0 ((ji38) : Int).toNat)).bind fun t24 => (driftnetlaw16_LogfmtBack.l0 kj5 l0 l1 ((((x5_1 ++ (⟨#[32]⟩ : ByteArray)) ++ t20) ++ (⟨#[61]⟩ : ByteArray)) ++ t23) t24 (wrap64 (x7_1 + 1)))) else (none))) else (none)) else (none)) else (none)) else (none)) else (none)) = some r := by first | (rw [hji38] at H; exact H) | (simp only [hji38] at H ⊢; exact H)
                        (try rw [hji38] at A37)
                        have hji38_ : (if 200 < (((rd_T35 l0 x7_1).f1).size : Int) then 200 else (((rd_T35 l0 x7_1).f1).size : Int)) = ji38 := hji38
                        by_cases c39 : 0 ≤ (ji38)
                        · rw [if_pos c39] at H
                          have c39b0 := eq_true c39
                          have c39b1 : decide (0 ≤ (ji38)) = true := decide_eq_true c39
                          clear c39
                          by_cases c40 : (ji38) ≤ (((rd_T35 l0 x7_1).f1).size : Int)
                          · rw [if_pos c40] at H
                            have c40b0 := eq_true c40
                            have c40b1 : decide ((ji38) ≤ (((rd_T35 l0 x7_1).f1).size : Int)) = true := decide_eq_true c40
                            clear c40
                            by_cases c41 : x5_1.size + 1 ≤ 9223372036854775807
                            · rw [if_pos c41] at H
                              have c41b0 := eq_true c41
                              have c41b1 : decide (x5_1.size + 1 ≤ 9223372036854775807) = true := decide_eq_true c41
                              try have c41b2 : (9223372036854775807 < x5_1.size + 1) = False := eq_false (Nat.not_lt.2 c41)
                              by_cases c42 : (x5_1 ++ (⟨#[32]⟩ : ByteArray)).size + t20.size ≤ 9223372036854775807
                              · rw [if_pos c42] at H
                                have c42b0 := eq_true c42
                                have c42b1 : decide ((x5_1 ++ (⟨#[32]⟩ : ByteArray)).size + t20.size ≤ 9223372036854775807) = true := decide_eq_true c42
                                try have c42b2 : (9223372036854775807 < (x5_1 ++ (⟨#[32]⟩ : ByteArray)).size + t20.size) = False := eq_false (Nat.not_lt.2 c42)
                                have c42_jn0 : (x5_1.size + 1 + t20.size ≤ 9223372036854775807) = True := eq_true (by have z_ := c42; simp only [ByteArray.size_append] at z_; exact z_)
                                have c42_jn1 : (9223372036854775807 < x5_1.size + 1 + t20.size) = False := eq_false (Nat.not_lt.2 (by have z_ := c42; simp only [ByteArray.size_append] at z_; exact z_))
                                by_cases c43 : ((x5_1 ++ (⟨#[32]⟩ : ByteArray)) ++ t20).size + 1 ≤ 9223372036854775807
                                · rw [if_pos c43] at H
                                  have c43b0 := eq_true c43
                                  have c43b1 : decide (((x5_1 ++ (⟨#[32]⟩ : ByteArray)) ++ t20).size + 1 ≤ 9223372036854775807) = true := decide_eq_true c43
                                  try have c43b2 : (9223372036854775807 < ((x5_1 ++ (⟨#[32]⟩ : ByteArray)) ++ t20).size + 1) = False := eq_false (Nat.not_lt.2 c43)
                                  have c43_jn0 : (x5_1.size + 1 + t20.size + 1 ≤ 9223372036854775807) = True := eq_true (by have z_ := c43; simp only [ByteArray.size_append] at z_; exact z_)
                                  have c43_jn1 : (9223372036854775807 < x5_1.size + 1 + t20.size + 1) = False := eq_false (Nat.not_lt.2 (by have z_ := c43; simp only [ByteArray.size_append] at z_; exact z_))
                                  replace H := Option.bind_eq_some_iff.mp H
                                  obtain ⟨t23, A440, H⟩ := H
                                  replace H : (if (((x5_1 ++ (⟨#[32]⟩ : ByteArray)) ++ t20) ++ (⟨#[61]⟩ : ByteArray)).size + t23.size ≤ 9223372036854775807 then ((labels_Set.f x6_1 t20 (((rd_T35 l0 x7_1).f1).extract 0 ((ji38) : Int).toNat)).bind fun t24 => (driftnetlaw16_LogfmtBack.l0 kj5 l0 l1 ((((x5_1 ++ (⟨#[32]⟩ : ByteArray)) ++ t20) ++ (⟨#[61]⟩ : ByteArray)) ++ t23) t24 (wrap64 (x7_1 + 1)))) else (none)) = some r := H
                                  have A44 := Aside0.mk A440
                                  clear A440
                                  by_cases c45 : (((x5_1 ++ (⟨#[32]⟩ : ByteArray)) ++ t20) ++ (⟨#[61]⟩ : ByteArray)).size + t23.size ≤ 9223372036854775807
                                  · rw [if_pos c45] at H
                                    have c45b0 := eq_true c45
                                    have c45b1 : decide ((((x5_1 ++ (⟨#[32]⟩ : ByteArray)) ++ t20) ++ (⟨#[61]⟩ : ByteArray)).size + t23.size ≤ 9223372036854775807) = true := decide_eq_true c45
                                    try have c45b2 : (9223372036854775807 < (((x5_1 ++ (⟨#[32]⟩ : ByteArray)) ++ t20) ++ (⟨#[61]⟩ : ByteArray)).size + t23.size) = False := eq_false (Nat.not_lt.2 c45)
                                    have c45_jn0 : (x5_1.size + 1 + t20.size + 1 + t23.size ≤ 9223372036854775807) = True := eq_true (by have z_ := c45; simp only [ByteArray.size_append] at z_; exact z_)
                                    have c45_jn1 : (9223372036854775807 < x5_1.size + 1 + t20.size + 1 + t23.size) = False := eq_false (Nat.not_lt.2 (by have z_ := c45; simp only [ByteArray.size_append] at z_; exact z_))
                                    replace H := Option.bind_eq_some_iff.mp H
                                    obtain ⟨t24, A460, H⟩ := H
                                    replace H : (driftnetlaw16_LogfmtBack.l0 kj5 l0 l1 ((((x5_1 ++ (⟨#[32]⟩ : ByteArray)) ++ t20) ++ (⟨#[61]⟩ : ByteArray)) ++ t23) t24 (wrap64 (x7_1 + 1))) = some r := H
                                    have A46 := Aside0.mk A460
                                    clear A460
                                    have H' := Aside0.mk H
                                    clear H
                                    try go_wp2
                                    have n0_ := Aside0.mk (Kd.R_drew HO_6.out)
                                    have n1_ := Aside0.mk (below_drew1 HB.out)
                                    clear HO_6
                                    clear HB
                                    have HO_6 := n0_
                                    have HB := n1_
                                    clear n0_ n1_
                                    have p18 : 0 ≤ (x7_1 : Int) := of_decide_eq_true (by first | (with_reducible assumption) | assumption)
                                    have q18 : x7_1 < (l0.length : Int) := of_decide_eq_true (by first | (with_reducible assumption) | assumption)
                                    obtain ⟨ad18, e18, hx18_0, hx18_1⟩ := at_T35 HR0.out x7_1 p18 q18
                                    have hw18_1 := hx18_1
                                    have hw18_0 := hx18_0
                                    cases e18
                                    replace hx18_0 := (HB.out.cell (World.block_lt_of_cell? w _ hx18_0)).trans hx18_0
                                    replace hx18_1 := (HB.out.cell (World.block_lt_of_cell? w _ hx18_1)).trans hx18_1
                                    replace p18 := eq_true p18
                                    replace q18 := eq_true q18
                                    have p19 : 0 ≤ (x7_1 : Int) := of_decide_eq_true (by first | (with_reducible assumption) | assumption)
                                    have q19 : x7_1 < (l0.length : Int) := of_decide_eq_true (by first | (with_reducible assumption) | assumption)
                                    obtain ⟨ad19, e19, hx19_0, hx19_1⟩ := at_T35 HR0.out x7_1 p19 q19
                                    have hw19_1 := hx19_1
                                    have hw19_0 := hx19_0
                                    obtain rfl : ad18 = ad19 := (by injection e19)
                                    replace hx19_0 := (HB.out.cell (World.block_lt_of_cell? w _ hx19_0)).trans hx19_0
                                    replace hx19_1 := (HB.out.cell (World.block_lt_of_cell? w _ hx19_1)).trans hx19_1
                                    replace p19 := eq_true p19
                                    replace q19 := eq_true q19
                                    have p21 : 0 ≤ (x7_1 : Int) := of_decide_eq_true (by first | (with_reducible assumption) | assumption)
                                    have q21 : x7_1 < (l0.length : Int) := of_decide_eq_true (by first | (with_reducible assumption) | assumption)
                                    obtain ⟨ad21, e21, hx21_0, hx21_1⟩ := at_T35 HR0.out x7_1 p21 q21
                                    have hw21_1 := hx21_1
                                    have hw21_0 := hx21_0
                                    obtain rfl : ad18 = ad21 := (by injection e21)
                                    replace hx21_0 := (HB.out.cell (World.block_lt_of_cell? w _ hx21_0)).trans hx21_0
                                    replace hx21_1 := (HB.out.cell (World.block_lt_of_cell? w _ hx21_1)).trans hx21_1
                                    replace p21 := eq_true p21
                                    replace q21 := eq_true q21
                                    have p22 : 0 ≤ (x7_1 : Int) := of_decide_eq_true (by first | (with_reducible assumption) | assumption)
                                    have q22 : x7_1 < (l0.length : Int) := of_decide_eq_true (by first | (with_reducible assumption) | assumption)
                                    obtain ⟨ad22, e22, hx22_0, hx22_1⟩ := at_T35 HR0.out x7_1 p22 q22
                                    have hw22_1 := hx22_1
                                    have hw22_0 := hx22_0
                                    obtain rfl : ad18 = ad22 := (by injection e22)
                                    replace hx22_0 := (HB.out.cell (World.block_lt_of_cell? w _ hx22_0)).trans hx22_0
                                    replace hx22_1 := (HB.out.cell (World.block_lt_of_cell? w _ hx22_1)).trans hx22_1
                                    replace p22 := eq_true p22
                                    replace q22 := eq_true q22
                                    refine start_ (n := 29) (S := fun w' => w'.cell? (ad18.add ((x7_1).toNat * 2)) = some (.string ((rd_T35 l0 x7_1).f0)) ∧ w'.cell? ⟨(ad18.add ((x7_1).toNat * 2)).block, (ad18.add ((x7_1).toNat * 2)).off + 1, none⟩ = some (.string ((rd_T35 l0 x7_1).f1)) ∧ w'.cell? (ad18.add ((x7_1).toNat * 2)) = some (.string ((rd_T35 l0 x7_1).f0)) ∧ w'.cell? ⟨(ad18.add ((x7_1).toNat * 2)).block, (ad18.add ((x7_1).toNat * 2)).off + 1, none⟩ = some (.string ((rd_T35 l0 x7_1).f1)) ∧ w'.cell? (ad18.add ((x7_1).toNat * 2)) = some (.string ((rd_T35 l0 x7_1).f0)) ∧ w'.cell? ⟨(ad18.add ((x7_1).toNat * 2)).block, (ad18.add ((x7_1).toNat * 2)).off + 1, none⟩ = some (.string ((rd_T35 l0 x7_1).f1)) ∧ w'.cell? (ad18.add ((x7_1).toNat * 2)) = some (.string ((rd_T35 l0 x7_1).f0)) ∧ w'.cell? ⟨(ad18.add ((x7_1).toNat * 2)).block, (ad18.add ((x7_1).toNat * 2)).off + 1, none⟩ = some (.string ((rd_T35 l0 x7_1).f1))) (ds := []) #[false, false, false, false, false, false, false, false, false, false, false, false, false, false, false, false, false, false, false, false, false, false, false, false, false, false, false, false, false] (by kernel_rfl) rfl rfl ⟨((HB.out.cell (World.block_lt_of_cell? w _ hw18_0)).trans hw18_0), ((HB.out.cell (World.block_lt_of_cell? w _ hw18_1)).trans hw18_1), ((HB.out.cell (World.block_lt_of_cell? w _ hw19_0)).trans hw19_0), ((HB.out.cell (World.block_lt_of_cell? w _ hw19_1)).trans hw19_1), ((HB.out.cell (World.block_lt_of_cell? w _ hw21_0)).trans hw21_0), ((HB.out.cell (World.block_lt_of_cell? w _ hw21_1)).trans hw21_1), ((HB.out.cell (World.block_lt_of_cell? w _ hw22_0)).trans hw22_0), ((HB.out.cell (World.block_lt_of_cell? w _ hw22_1)).trans hw22_1)⟩ (fun hHeld => ?_); refine with_tabW driftnetlaw16_LogfmtBack.tab11 driftnetlaw16_LogfmtBack.bits11 (fun HT_ HW_ => ?_)
                                    generalize wc.drew = w47 at HO_6 HB hx18_0 hx18_1 hx19_0 hx19_1 hx21_0 hx21_1 hx22_0 hx22_1 hHeld ⊢
                                    refine pure_ (i := 0) (N := some 34) (v := ?_) (a' := ?_) #[true, false, false, false, false, false, false, false, false, false, false, false, false, false, false, false, false, false, false, false, false, false, false, false, false, false, false, false, false] rfl rfl (any_of HT_.out (by kernel_rfl)) (fun _ _ _ h => h) (Or.inl ⟨by rfl, ?_⟩) ?_ ?_
                                    rotate_left
                                    · intro w'
                                      go_simp
                                      with_reducible rfl
                                    rotate_left
                                    · simp only [Act.put, List.setIfInBounds_toArray, List.set_cons_zero, List.set_cons_succ, i64_w, i32_w]
                                      rfl
                                    refine pure_ (i := 1) (N := some 35) (v := ?_) (a' := ?_) #[true, true, false, false, false, false, false, false, false, false, false, false, false, false, false, false, false, false, false, false, false, false, false, false, false, false, false, false, false] rfl rfl (any_of HT_.out (by kernel_rfl)) (fun _ _ _ h => h) (Or.inl ⟨by rfl, ?_⟩) ?_ ?_
                                    rotate_left
                                    · intro w'
                                      go_simp
                                      with_reducible rfl
                                    rotate_left
                                    · simp only [Act.put, List.setIfInBounds_toArray, List.set_cons_zero, List.set_cons_succ, i64_w, i32_w]
                                      rfl
                                    refine pure_ (i := 2) (N := some 36) (v := ?_) (a' := ?_) #[true, true, true, false, false, false, false, false, false, false, false, false, false, false, false, false, false, false, false, false, false, false, false, false, false, false, false, false, false] rfl rfl (any_of HT_.out (by kernel_rfl)) (fun _ _ _ h => h) (Or.inl ⟨by rfl, ?_⟩) ?_ ?_
                                    rotate_left
                                    · intro w'
                                      go_simp
                                      with_reducible rfl
                                    rotate_left
                                    · simp only [Act.put, List.setIfInBounds_toArray, List.set_cons_zero, List.set_cons_succ, i64_w, i32_w]
                                      rfl
                                    refine pure_ (i := 3) (N := some 37) (v := ?_) (a' := ?_) #[true, true, true, true, false, false, false, false, false, false, false, false, false, false, false, false, false, false, false, false, false, false, false, false, false, false, false, false, false] rfl rfl (any_of HT_.out (by kernel_rfl)) (fun _ _ _ h => h) (Or.inl ⟨by rfl, ?_⟩) ?_ ?_
                                    rotate_left
                                    · intro w'
                                      go_simp
                                      with_reducible rfl
                                    rotate_left
                                    · simp only [Act.put, List.setIfInBounds_toArray, List.set_cons_zero, List.set_cons_succ, i64_w, i32_w]
                                      rfl
                                    refine pure_ (i := 5) (N := some 39) (v := ?_) (a' := ?_) #[true, true, true, true, false, true, false, false, false, false, false, false, false, false, false, false, false, false, false, false, false, false, false, false, false, false, false, false, false] rfl rfl (any_of HT_.out (by kernel_rfl)) (fun _ _ _ h => h) (Or.inl ⟨by rfl, ?_⟩) ?_ ?_
                                    rotate_left
                                    · intro w'
                                      go_simp
                                      with_reducible rfl
                                    rotate_left
                                    · simp only [Act.put, List.setIfInBounds_toArray, List.set_cons_zero, List.set_cons_succ, i64_w, i32_w]
                                      rfl
                                    refine pure_ (i := 6) (N := some 40) (v := ?_) (a' := ?_) #[true, true, true, true, false, true, true, false, false, false, false, false, false, false, false, false, false, false, false, false, false, false, false, false, false, false, false, false, false] rfl rfl (any_of HT_.out (by kernel_rfl)) (fun _ _ _ h => h) (Or.inl ⟨by rfl, ?_⟩) ?_ ?_
                                    rotate_left
                                    · intro w'
                                      go_simp
                                      with_reducible rfl
                                    rotate_left
                                    · simp only [Act.put, List.setIfInBounds_toArray, List.set_cons_zero, List.set_cons_succ, i64_w, i32_w]
                                      rfl
                                    refine pure_ (i := 7) (N := some 41) (v := ?_) (a' := ?_) #[true, true, true, true, false, true, true, true, false, false, false, false, false, false, false, false, false, false, false, false, false, false, false, false, false, false, false, false, false] rfl rfl (any_of HT_.out (by kernel_rfl)) (fun _ _ _ h => h) (Or.inl ⟨by rfl, ?_⟩) ?_ ?_
                                    rotate_left
                                    · intro w'
                                      go_simp
                                      with_reducible rfl
                                    rotate_left
                                    · simp only [Act.put, List.setIfInBounds_toArray, List.set_cons_zero, List.set_cons_succ, i64_w, i32_w]
                                      rfl
                                    refine pure_ (i := 8) (N := some 42) (v := ?_) (a' := ?_) #[true, true, true, true, false, true, true, true, true, false, false, false, false, false, false, false, false, false, false, false, false, false, false, false, false, false, false, false, false] rfl rfl (any_of HT_.out (by kernel_rfl)) (fun _ _ _ h => h) (Or.inl ⟨by rfl, ?_⟩) ?_ ?_
                                    rotate_left
                                    · intro w'
                                      go_simp
                                      with_reducible rfl
                                    rotate_left
                                    · simp only [Act.put, List.setIfInBounds_toArray, List.set_cons_zero, List.set_cons_succ, i64_w, i32_w]
                                      rfl
                                    refine pure_ (i := 14) (N := some 48) (v := ?_) (a' := ?_) #[true, true, true, true, false, true, true, true, true, false, false, false, false, false, true, false, false, false, false, false, false, false, false, false, false, false, false, false, false] rfl rfl (any_of HT_.out (by kernel_rfl)) (fun _ _ _ h => h) (Or.inl ⟨by rfl, ?_⟩) ?_ ?_
                                    rotate_left
                                    · intro w'
                                      go_simp
                                      with_reducible rfl
                                    rotate_left
                                    · simp only [Act.put, List.setIfInBounds_toArray, List.set_cons_zero, List.set_cons_succ, i64_w, i32_w]
                                      rfl
                                    refine pure_ (i := 15) (N := some 49) (v := ?_) (a' := ?_) #[true, true, true, true, false, true, true, true, true, false, false, false, false, false, true, true, false, false, false, false, false, false, false, false, false, false, false, false, false] rfl rfl (any_of HT_.out (by kernel_rfl)) (fun _ _ _ h => h) (Or.inl ⟨by rfl, ?_⟩) ?_ ?_
                                    rotate_left
                                    · intro w'
                                      go_simp
                                      with_reducible rfl
                                    rotate_left
                                    · simp only [Act.put, List.setIfInBounds_toArray, List.set_cons_zero, List.set_cons_succ, i64_w, i32_w]
                                      rfl
                                    refine pure_ (i := 16) (N := some 50) (v := ?_) (a' := ?_) #[true, true, true, true, false, true, true, true, true, false, false, false, false, false, true, true, true, false, false, false, false, false, false, false, false, false, false, false, false] rfl rfl (any_of HT_.out (by kernel_rfl)) (fun _ _ _ h => h) (Or.inl ⟨by rfl, ?_⟩) ?_ ?_
                                    rotate_left
                                    · intro w'
                                      go_simp
                                      with_reducible rfl
                                    rotate_left
                                    · simp only [Act.put, List.setIfInBounds_toArray, List.set_cons_zero, List.set_cons_succ, i64_w, i32_w]
                                      rfl
                                    refine pure_ (i := 17) (N := some 51) (v := ?_) (a' := ?_) #[true, true, true, true, false, true, true, true, true, false, false, false, false, false, true, true, true, true, false, false, false, false, false, false, false, false, false, false, false] rfl rfl (any_of HT_.out (by kernel_rfl)) (fun _ _ _ h => h) (Or.inl ⟨by rfl, ?_⟩) ?_ ?_
                                    rotate_left
                                    · intro w'
                                      go_simp
                                      with_reducible rfl
                                    rotate_left
                                    · simp only [Act.put, List.setIfInBounds_toArray, List.set_cons_zero, List.set_cons_succ, i64_w, i32_w]
                                      rfl
                                    refine pure_ (i := 19) (N := some 53) (v := ?_) (a' := ?_) #[true, true, true, true, false, true, true, true, true, false, false, false, false, false, true, true, true, true, false, true, false, false, false, false, false, false, false, false, false] rfl rfl (any_of HT_.out (by kernel_rfl)) (fun _ _ _ h => h) (Or.inl ⟨by rfl, ?_⟩) ?_ ?_
                                    rotate_left
                                    · intro w'
                                      go_simp
                                      with_reducible rfl
                                    rotate_left
                                    · simp only [Act.put, List.setIfInBounds_toArray, List.set_cons_zero, List.set_cons_succ, i64_w, i32_w]
                                      rfl
                                    refine pure_ (i := 20) (N := some 54) (v := ?_) (a' := ?_) #[true, true, true, true, false, true, true, true, true, false, false, false, false, false, true, true, true, true, false, true, true, false, false, false, false, false, false, false, false] rfl rfl (any_of HT_.out (by kernel_rfl)) (fun _ _ _ h => h) (Or.inl ⟨by rfl, ?_⟩) ?_ ?_
                                    rotate_left
                                    · intro w'
                                      go_simp
                                      with_reducible rfl
                                    rotate_left
                                    · simp only [Act.put, List.setIfInBounds_toArray, List.set_cons_zero, List.set_cons_succ, i64_w, i32_w]
                                      rfl
                                    refine pure_ (i := 21) (N := some 55) (v := ?_) (a' := ?_) #[true, true, true, true, false, true, true, true, true, false, false, false, false, false, true, true, true, true, false, true, true, true, false, false, false, false, false, false, false] rfl rfl (any_of HT_.out (by kernel_rfl)) (fun _ _ _ h => h) (Or.inl ⟨by rfl, ?_⟩) ?_ ?_
                                    rotate_left
                                    · intro w'
                                      go_simp
                                      with_reducible rfl
                                    rotate_left
                                    · simp only [Act.put, List.setIfInBounds_toArray, List.set_cons_zero, List.set_cons_succ, i64_w, i32_w]
                                      rfl
                                    refine pure_ (i := 22) (N := some 56) (v := ?_) (a' := ?_) #[true, true, true, true, false, true, true, true, true, false, false, false, false, false, true, true, true, true, false, true, true, true, true, false, false, false, false, false, false] rfl rfl (any_of HT_.out (by kernel_rfl)) (fun _ _ _ h => h) (Or.inl ⟨by rfl, ?_⟩) ?_ ?_
                                    rotate_left
                                    · intro w'
                                      go_simp
                                      with_reducible rfl
                                    rotate_left
                                    · simp only [Act.put, List.setIfInBounds_toArray, List.set_cons_zero, List.set_cons_succ, i64_w, i32_w]
                                      rfl
                                    refine take_ (i := 4) (N := some 38) (v := ?_) (a' := ?_) #[true, true, true, true, true, true, true, true, true, false, false, false, false, false, true, true, true, true, false, true, true, true, true, false, false, false, false, false, false] rfl rfl (take_ofW HT_.out HW_.out (by kernel_rfl)) (fun _ _ _ h => h) (Or.inl ⟨by rfl, ?_⟩) hHeld ?_ ?_
                                    rotate_left
                                    · rintro w' ⟨s0, s1, s2, s3, s4, s5, s6, s7⟩
                                      go_simp
                                      with_reducible rfl
                                    rotate_left
                                    · simp only [Act.put, List.setIfInBounds_toArray, List.set_cons_zero, List.set_cons_succ, i64_w, i32_w]
                                      rfl
                                    refine take_ (i := 9) (N := some 43) (v := ?_) (a' := ?_) #[true, true, true, true, true, true, true, true, true, true, false, false, false, false, true, true, true, true, false, true, true, true, true, false, false, false, false, false, false] rfl rfl (take_ofW HT_.out HW_.out (by kernel_rfl)) (fun _ _ _ h => h) (Or.inl ⟨by rfl, ?_⟩) hHeld ?_ ?_
                                    rotate_left
                                    · rintro w' ⟨s0, s1, s2, s3, s4, s5, s6, s7⟩
                                      go_simp
                                      with_reducible rfl
                                    rotate_left
                                    · simp only [Act.put, List.setIfInBounds_toArray, List.set_cons_zero, List.set_cons_succ, i64_w, i32_w]
                                      rfl
                                    refine pure_ (i := 10) (N := some 44) (v := ?_) (a' := ?_) #[true, true, true, true, true, true, true, true, true, true, true, false, false, false, true, true, true, true, false, true, true, true, true, false, false, false, false, false, false] rfl rfl (any_of HT_.out (by kernel_rfl)) (fun _ _ _ h => h) (Or.inl ⟨by rfl, ?_⟩) ?_ ?_
                                    rotate_left
                                    · intro w'
                                      go_simp
                                      with_reducible rfl
                                    rotate_left
                                    · simp only [Act.put, List.setIfInBounds_toArray, List.set_cons_zero, List.set_cons_succ, i64_w, i32_w]
                                      rfl
                                    refine pure_ (i := 11) (N := some 45) (v := ?_) (a' := ?_) #[true, true, true, true, true, true, true, true, true, true, true, true, false, false, true, true, true, true, false, true, true, true, true, false, false, false, false, false, false] rfl rfl (any_of HT_.out (by kernel_rfl)) (fun _ _ _ h => h) (Or.inl ⟨by rfl, ?_⟩) ?_ ?_
                                    rotate_left
                                    · intro w'
                                      go_simp
                                      with_reducible rfl
                                    rotate_left
                                    · simp only [Act.put, List.setIfInBounds_toArray, List.set_cons_zero, List.set_cons_succ, i64_w, i32_w]
                                      rfl
                                    refine pure_ (i := 12) (N := some 46) (v := ?_) (a' := ?_) #[true, true, true, true, true, true, true, true, true, true, true, true, true, false, true, true, true, true, false, true, true, true, true, false, false, false, false, false, false] rfl rfl (any_of HT_.out (by kernel_rfl)) (fun _ _ _ h => h) (Or.inl ⟨by rfl, ?_⟩) ?_ ?_
                                    rotate_left
                                    · intro w'
                                      go_simp
                                      with_reducible rfl
                                    rotate_left
                                    · simp only [Act.put, List.setIfInBounds_toArray, List.set_cons_zero, List.set_cons_succ, i64_w, i32_w]
                                      rfl
                                    refine take_ (i := 18) (N := some 52) (v := ?_) (a' := ?_) #[true, true, true, true, true, true, true, true, true, true, true, true, true, false, true, true, true, true, true, true, true, true, true, false, false, false, false, false, false] rfl rfl (take_ofW HT_.out HW_.out (by kernel_rfl)) (fun _ _ _ h => h) (Or.inl ⟨by rfl, ?_⟩) hHeld ?_ ?_
                                    rotate_left
                                    · rintro w' ⟨s0, s1, s2, s3, s4, s5, s6, s7⟩
                                      go_simp
                                      with_reducible rfl
                                    rotate_left
                                    · simp only [Act.put, List.setIfInBounds_toArray, List.set_cons_zero, List.set_cons_succ, i64_w, i32_w]
                                      rfl
                                    refine take_ (i := 23) (N := some 57) (v := ?_) (a' := ?_) #[true, true, true, true, true, true, true, true, true, true, true, true, true, false, true, true, true, true, true, true, true, true, true, true, false, false, false, false, false] rfl rfl (take_ofW HT_.out HW_.out (by kernel_rfl)) (fun _ _ _ h => h) (Or.inl ⟨by rfl, ?_⟩) hHeld ?_ ?_
                                    rotate_left
                                    · rintro w' ⟨s0, s1, s2, s3, s4, s5, s6, s7⟩
                                      go_simp
                                      with_reducible rfl
                                    rotate_left
                                    · simp only [Act.put, List.setIfInBounds_toArray, List.set_cons_zero, List.set_cons_succ, i64_w, i32_w]
                                      rfl
                                    refine pure_ (i := 24) (N := some 58) (v := ?_) (a' := ?_) #[true, true, true, true, true, true, true, true, true, true, true, true, true, false, true, true, true, true, true, true, true, true, true, true, true, false, false, false, false] rfl rfl (any_of HT_.out (by kernel_rfl)) (fun _ _ _ h => h) (Or.inl ⟨by rfl, ?_⟩) ?_ ?_
                                    rotate_left
                                    · intro w'
                                      go_simp
                                      with_reducible rfl
                                    rotate_left
                                    · simp only [Act.put, List.setIfInBounds_toArray, List.set_cons_zero, List.set_cons_succ, i64_w, i32_w]
                                      rfl
                                    refine pure_ (i := 25) (N := some 59) (v := ?_) (a' := ?_) #[true, true, true, true, true, true, true, true, true, true, true, true, true, false, true, true, true, true, true, true, true, true, true, true, true, true, false, false, false] rfl rfl (any_of HT_.out (by kernel_rfl)) (fun _ _ _ h => h) (Or.inl ⟨by rfl, ?_⟩) ?_ ?_
                                    rotate_left
                                    · intro w'
                                      go_simp
                                      with_reducible rfl
                                    rotate_left
                                    · simp only [Act.put, List.setIfInBounds_toArray, List.set_cons_zero, List.set_cons_succ, i64_w, i32_w]
                                      rfl
                                    refine pure_ (i := 26) (N := some 60) (v := ?_) (a' := ?_) #[true, true, true, true, true, true, true, true, true, true, true, true, true, false, true, true, true, true, true, true, true, true, true, true, true, true, true, false, false] rfl rfl (any_of HT_.out (by kernel_rfl)) (fun _ _ _ h => h) (Or.inl ⟨by rfl, ?_⟩) ?_ ?_
                                    rotate_left
                                    · intro w'
                                      go_simp
                                      with_reducible rfl
                                    rotate_left
                                    · simp only [Act.put, List.setIfInBounds_toArray, List.set_cons_zero, List.set_cons_succ, i64_w, i32_w]
                                      rfl
                                    refine one_ (i := 13) (N := some 47) #[true, true, true, true, true, true, true, true, true, true, true, true, true, true, true, true, true, true, true, true, true, true, true, true, true, true, true, false, false] rfl rfl (one_of HT_.out (by kernel_rfl)) (by decide) (fun K hK => ?_)
                                    refine goes_ Tryz.func17 (by kernel_rfl) rfl #[.string (((rd_T35 l0 x7_1).f0).extract 0 ((ji34) : Int).toNat)] (by rfl) rfl rfl (by (try simp only [List.map_toArray, List.map_cons, List.map_nil]); first | done | (simp only [hji34]; rfl) | rfl | (simp only [List.length_drop, List.length_take]; rfl)) ?_
                                    with_reducible refine (labels_Clean.calls (((rd_T35 l0 x7_1).f0).extract 0 ((ji34) : Int).toNat) t20 _ A37.out).mono ?_
                                    rintro e w48 ⟨rfl, hb⟩
                                    refine ⟨_, rfl, ?_⟩
                                    have n0_ := Aside0.mk (Kd.R_below (by (with_reducible repeat (first | apply Kd.R_alloc | apply Kd.R_drewN | apply Kd.R_drew)); exact HO_6.out) hb)
                                    have n1_ := Aside0.mk (below_step (by repeat (first | (with_reducible first | exact HB.out | apply below_alloc | apply pw_below_drewN | apply below_drew1) | exact HB.out)) hb)
                                    clear HO_6
                                    clear HB
                                    have HO_6 := n0_
                                    have HB := n1_
                                    clear n0_ n1_
                                    (try clear hb)
                                    (try clear hb2)
                                    (try clear hk)
                                    (try clear hi)
                                    refine hK.out _ _ ⟨((HB.out.cell (World.block_lt_of_cell? w _ hw18_0)).trans hw18_0), ((HB.out.cell (World.block_lt_of_cell? w _ hw18_1)).trans hw18_1), ((HB.out.cell (World.block_lt_of_cell? w _ hw19_0)).trans hw19_0), ((HB.out.cell (World.block_lt_of_cell? w _ hw19_1)).trans hw19_1), ((HB.out.cell (World.block_lt_of_cell? w _ hw21_0)).trans hw21_0), ((HB.out.cell (World.block_lt_of_cell? w _ hw21_1)).trans hw21_1), ((HB.out.cell (World.block_lt_of_cell? w _ hw22_0)).trans hw22_0), ((HB.out.cell (World.block_lt_of_cell? w _ hw22_1)).trans hw22_1)⟩ (fun hHeld => ?_)
                                    clear hK K
                                    refine norm_ (a' := ?_) ?_ ?_
                                    rotate_left
                                    · show Act.put _ (some 47) _ = _
                                      simp only [Act.put, List.setIfInBounds_toArray, List.set_cons_zero, List.set_cons_succ, i64_w, i32_w]
                                      rfl
                                    refine pure_ (i := 27) (N := some 9) (v := ?_) (a' := ?_) #[true, true, true, true, true, true, true, true, true, true, true, true, true, true, true, true, true, true, true, true, true, true, true, true, true, true, true, true, false] rfl rfl (any_of HT_.out (by kernel_rfl)) (fun _ _ _ h => h) (Or.inl ⟨by rfl, ?_⟩) ?_ ?_
                                    rotate_left
                                    · intro w'
                                      go_simp
                                      with_reducible rfl
                                    rotate_left
                                    · simp only [Act.put, List.setIfInBounds_toArray, List.set_cons_zero, List.set_cons_succ, i64_w, i32_w]
                                      rfl
                                    refine pure_ (i := 28) (N := some 10) (v := ?_) (a' := ?_) #[true, true, true, true, true, true, true, true, true, true, true, true, true, true, true, true, true, true, true, true, true, true, true, true, true, true, true, true, true] rfl rfl (any_of HT_.out (by kernel_rfl)) (fun _ _ _ h => h) (Or.inl ⟨by rfl, ?_⟩) ?_ ?_
                                    rotate_left
                                    · intro w'
                                      go_simp
                                      with_reducible rfl
                                    rotate_left
                                    · simp only [Act.put, List.setIfInBounds_toArray, List.set_cons_zero, List.set_cons_succ, i64_w, i32_w]
                                      rfl
                                    refine done_ (done_of HT_.out (by kernel_rfl)) ?_
                                    try go_wp2_with (first | ((with_reducible refine gate_callee (f := 18) rfl ?_); refine goesL_ (some 68) rfl rfl Tryz.func18 (by kernel_rfl) rfl #[.string (((rd_T35 l0 x7_1).f1).extract 0 ((ji38) : Int).toNat)] rfl (by (try simp only [List.map_toArray, List.map_cons, List.map_nil]); first | done | (simp only [hji38]; rfl) | rfl | (simp only [List.length_drop, List.length_take]; rfl)) ?_; (with_reducible refine (quote_Quote.calls (((rd_T35 l0 x7_1).f1).extract 0 ((ji38) : Int).toNat) t23 _ ?side1 A44.out).mono ?_); (case side1 => exact G.at hG.out (by repeat (first | (with_reducible first | exact HB.out | apply below_alloc | apply pw_below_drewN | apply below_drew1) | exact HB.out))); rintro e w49 ⟨rfl, hb⟩; refine ⟨_, rfl, ?_⟩; have n0_ := Aside0.mk (Kd.R_below (by (with_reducible repeat (first | apply Kd.R_alloc | apply Kd.R_drewN | apply Kd.R_drew)); exact HO_6.out) hb); have n1_ := Aside0.mk (below_step (by repeat (first | (with_reducible first | exact HB.out | apply below_alloc | apply pw_below_drewN | apply below_drew1) | exact HB.out)) hb); clear HO_6; clear HB; have HO_6 := n0_; have HB := n1_; clear n0_ n1_; (try clear hb); (try clear hb2); (try clear hk); (try clear hi); obtain ⟨Ao50, co50, eo50⟩ := Kd.R_slice HO_6.out; subst eo50) | ((with_reducible refine gate_callee (f := 12) rfl ?_); refine goesL_ (some 73) rfl rfl Tryz.func12 (by kernel_rfl) rfl #[.slice Ao50 x6_1.length co50, .string t20, .string (((rd_T35 l0 x7_1).f1).extract 0 ((ji38) : Int).toNat)] rfl (by (try simp only [List.map_toArray, List.map_cons, List.map_nil]); first | done | (simp only [hji38]; rfl) | rfl | (simp only [List.length_drop, List.length_take]; rfl)) ?_; (with_reducible refine (labels_Set.calls _ _ x6_1 t20 (((rd_T35 l0 x7_1).f1).extract 0 ((ji38) : Int).toNat) t24 _ ?side1 ?side2 A46.out).mono ?_); (case side1 => repeat (first | exact (Kd.R_reads' HO_6.out).2.2 | (with_reducible refine Kd.C_alloc ?_ _) | (with_reducible refine Kd.C_drewN ?_ _) | (with_reducible refine Kd.C_drew ?_))); (case side2 => exact (Kd.R_reads' HO_6.out).2.1); rintro e w51 ⟨v25, rfl, ho0, hb⟩; refine ⟨_, rfl, ?_⟩; have n0_ := Aside0.mk (Kd.R_elder' (by (with_reducible repeat (first | apply Kd.R_alloc | apply Kd.R_drewN | apply Kd.R_drew)); exact HO_6.out) (Kd.R_base ho0) hb); have n1_ := Aside0.mk (Kd.R_lower (Kd.R_new' ho0 (Kd.R_lt (by (with_reducible repeat (first | apply Kd.R_alloc | apply Kd.R_drewN | apply Kd.R_drew)); exact HO_6.out))) (below_size (by repeat (first | (with_reducible first | exact HB.out | apply below_alloc | apply pw_below_drewN | apply below_drew1) | exact HB.out)))); have n2_ := Aside0.mk (below_step (by repeat (first | (with_reducible first | exact HB.out | apply below_alloc | apply pw_below_drewN | apply below_drew1) | exact HB.out)) hb); clear HO_6; clear HB; have HO_6 := n0_; have HO26 := n1_; have HB := n2_; clear n0_ n1_ n2_; (try clear hb); (try clear hb2); (try clear hk); (try clear hi); (try clear ho0)))
                                    go_roundg kj5
                                    case measure => have := HK1.out; have := HJ5.out; omega
                                    case rel => exact ⟨((((x5_1 ++ (⟨#[32]⟩ : ByteArray)) ++ t20) ++ (⟨#[61]⟩ : ByteArray)) ++ t23), (t24), (wrap64 (x7_1 + 1)), (by first | rfl | (simp; done) | (simp [*]; done)), (by first | rfl | (simp; done) | (simp [*]; done)), H', ⟨by have := HK1.out; have := HJ5.out; omega⟩, ⟨by (with_reducible repeat (first | apply Kd.R_alloc | apply Kd.R_drewN | apply Kd.R_drew)); exact Kd.R_mono HO26.out (fun _ hk => trivial)⟩, ⟨by repeat (first | (with_reducible first | exact HB.out | apply below_alloc | apply pw_below_drewN | apply below_drew1) | exact HB.out)⟩⟩
                                  · rw [if_neg c45] at H
                                    exact absurd H (by simp)
                                · rw [if_neg c43] at H
                                  exact absurd H (by simp)
                              · rw [if_neg c42] at H
                                exact absurd H (by simp)
                            · rw [if_neg c41] at H
                              exact absurd H (by simp)
                          · rw [if_neg c40] at H
                            exact absurd H (by simp)
                        · rw [if_neg c39] at H
                          exact absurd H (by simp)
                      · rw [if_neg c36] at H
                        exact absurd H (by simp)
                    · rw [if_neg c35] at H
                      exact absurd H (by simp)
                  · rw [if_neg c33] at H
                    exact absurd H (by simp)
                · rw [if_neg c32] at H
                  exact absurd H (by simp)
            · replace c8 := Bool.eq_false_iff.mpr c8
              subst c8
              have H1 : ((logfmt_Parse.f x5_1).bind fun bt2 => (if bt2.2 = true then ((driftnetlaw16_same.f kj5 bt2.1 x6_1).bind fun t6 => (some t6)) else (some false))) = some r := by rw [if_neg (show ¬ (false = true) by decide)] at H; exact H
              clear H
              have H := H1
              clear H1
              replace H := Option.bind_eq_some_iff.mp H
              obtain ⟨⟨t2, t3⟩, A520, H⟩ := H
              replace H : (if t3 = true then ((driftnetlaw16_same.f kj5 t2 x6_1).bind fun t6 => (some t6)) else (some false)) = some r := H
              have A52 := Aside0.mk A520
              clear A520
              by_cases c53 : t3 = true
              · subst c53
                have H1 : ((driftnetlaw16_same.f kj5 t2 x6_1).bind fun t6 => (some t6)) = some r := by rw [if_pos rfl] at H; exact H
                clear H
                have H := H1
                clear H1
                replace H := Option.bind_eq_some_iff.mp H
                obtain ⟨t6, A540, H⟩ := H
                replace H : (some t6) = some r := H
                have A54 := Aside0.mk A540
                clear A540
                obtain rfl := Option.some.inj H
                go_wp2_with (first | ((with_reducible refine gate_callee (f := 8) rfl ?_); refine goesL_ (some 76) rfl rfl Tryz.func8 (by kernel_rfl) rfl #[.string x5_1] rfl (by (try simp only [List.map_toArray, List.map_cons, List.map_nil]); first | done | rfl | (simp only [List.length_drop, List.length_take]; rfl)) ?_; (with_reducible refine (logfmt_Parse.calls x5_1 t2 true _ ?side1 A52.out).mono ?_); (case side1 => exact G.at hG.out (by repeat (first | (with_reducible first | exact HB.out | apply below_alloc | apply pw_below_drewN | apply below_drew1) | exact HB.out))); rintro e w55 ⟨v4, rfl, ho0, hb⟩; refine ⟨_, rfl, ?_⟩; have n0_ := Aside0.mk (Kd.R_elder' (by (with_reducible repeat (first | apply Kd.R_alloc | apply Kd.R_drewN | apply Kd.R_drew)); exact HO_6.out) (Kd.R_base ho0) hb); have n1_ := Aside0.mk (Kd.R_lower (Kd.R_new' ho0 (Kd.R_lt (by (with_reducible repeat (first | apply Kd.R_alloc | apply Kd.R_drewN | apply Kd.R_drew)); exact HO_6.out))) (below_size (by repeat (first | (with_reducible first | exact HB.out | apply below_alloc | apply pw_below_drewN | apply below_drew1) | exact HB.out)))); have n2_ := Aside0.mk (below_step (by repeat (first | (with_reducible first | exact HB.out | apply below_alloc | apply pw_below_drewN | apply below_drew1) | exact HB.out)) hb); clear HO_6; clear HB; have HO_6 := n0_; have HO5 := n1_; have HB := n2_; clear n0_ n1_ n2_; (try clear hb); (try clear hb2); (try clear hk); (try clear hi); (try clear ho0); obtain ⟨Ao56, co56, eo56⟩ := Kd.R_slice HO5.out; subst eo56; obtain ⟨Ao57, co57, eo57⟩ := Kd.R_slice HO_6.out; subst eo57) | (go_at_call 10; (with_reducible refine (driftnetlaw16_same.calls kj5 _ _ t2 _ _ x6_1 t6 _ ?side1 ?side2 ?side3 ?side4 A54.out).mono ?_); (case side1 => repeat (first | exact (Kd.R_reads' HO5.out).2.2 | (with_reducible refine Kd.C_alloc ?_ _) | (with_reducible refine Kd.C_drewN ?_ _) | (with_reducible refine Kd.C_drew ?_))); (case side2 => exact (Kd.R_reads' HO5.out).2.1); (case side3 => repeat (first | exact (Kd.R_reads' HO_6.out).2.2 | (with_reducible refine Kd.C_alloc ?_ _) | (with_reducible refine Kd.C_drewN ?_ _) | (with_reducible refine Kd.C_drew ?_))); (case side4 => exact (Kd.R_reads' HO_6.out).2.1); rintro e w' ⟨rfl, ⟨nd, rfl⟩⟩))
                go_ret
                exact ⟨by first | rfl | (simp [errW_none, errW_some] <;> rfl) | (simp [*, errW_none, errW_some] <;> rfl), by repeat (first | (with_reducible first | exact HB.out | apply below_alloc | apply pw_below_drewN | apply below_drew1) | exact HB.out)⟩
              · replace c53 := Bool.eq_false_iff.mpr c53
                subst c53
                have H1 : (some false) = some r := by rw [if_neg (show ¬ (false = true) by decide)] at H; exact H
                clear H
                have H := H1
                clear H1
                obtain rfl := Option.some.inj H
                go_wp2_with (first | ((with_reducible refine gate_callee (f := 8) rfl ?_); refine goesL_ (some 76) rfl rfl Tryz.func8 (by kernel_rfl) rfl #[.string x5_1] rfl (by (try simp only [List.map_toArray, List.map_cons, List.map_nil]); first | done | rfl | (simp only [List.length_drop, List.length_take]; rfl)) ?_; (with_reducible refine (logfmt_Parse.calls x5_1 t2 false _ ?side1 A52.out).mono ?_); (case side1 => exact G.at hG.out (by repeat (first | (with_reducible first | exact HB.out | apply below_alloc | apply pw_below_drewN | apply below_drew1) | exact HB.out))); rintro e w58 ⟨v4, rfl, ho0, hb⟩; refine ⟨_, rfl, ?_⟩; have n0_ := Aside0.mk (Kd.R_elder' (by (with_reducible repeat (first | apply Kd.R_alloc | apply Kd.R_drewN | apply Kd.R_drew)); exact HO_6.out) (Kd.R_base ho0) hb); have n1_ := Aside0.mk (Kd.R_lower (Kd.R_new' ho0 (Kd.R_lt (by (with_reducible repeat (first | apply Kd.R_alloc | apply Kd.R_drewN | apply Kd.R_drew)); exact HO_6.out))) (below_size (by repeat (first | (with_reducible first | exact HB.out | apply below_alloc | apply pw_below_drewN | apply below_drew1) | exact HB.out)))); have n2_ := Aside0.mk (below_step (by repeat (first | (with_reducible first | exact HB.out | apply below_alloc | apply pw_below_drewN | apply below_drew1) | exact HB.out)) hb); clear HO_6; clear HB; have HO_6 := n0_; have HO5 := n1_; have HB := n2_; clear n0_ n1_ n2_; (try clear hb); (try clear hb2); (try clear hk); (try clear hi); (try clear ho0)))
                go_ret
                exact ⟨by first | rfl | (simp [errW_none, errW_some] <;> rfl) | (simp [*, errW_none, errW_some] <;> rfl), by repeat (first | (with_reducible first | exact HB.out | apply below_alloc | apply pw_below_drewN | apply below_drew1) | exact HB.out)⟩
  · replace c4 := Bool.eq_false_iff.mpr c4
    subst c4
    have H1 : (some false) = some r := by rw [if_neg (show ¬ (false = true) by decide)] at H; exact H
    clear H
    have H := H1
    clear H1
    obtain rfl := Option.some.inj H
    go_enter Tryz.func7, Tryz.ntmps7
    go_wp2_with (first | ((with_reducible refine gate_callee (f := 11) rfl ?_); refine goesL_ (some 13) rfl rfl Tryz.func11 (by kernel_rfl) rfl #[] rfl (by (try simp only [List.map_toArray, List.map_cons, List.map_nil]); first | done | rfl | (simp only [List.length_drop, List.length_take]; rfl)) ?_; (with_reducible refine (driftnetlaw16_works.calls k  false _ ?side1 A3.out).mono ?_); (case side1 => exact G.at hG.out (by repeat (first | (with_reducible first | exact HB.out | apply below_alloc | apply pw_below_drewN | apply below_drew1) | exact HB.out))); rintro e w59 ⟨rfl, hb⟩; refine ⟨_, rfl, ?_⟩; have n0_ := Aside0.mk (below_step (by repeat (first | (with_reducible first | exact HB.out | apply below_alloc | apply pw_below_drewN | apply below_drew1) | exact HB.out)) hb); clear HB; have HB := n0_; clear n0_; (try clear hb); (try clear hb2); (try clear hk); (try clear hi)))
    go_ret
    exact ⟨by first | rfl | (simp [errW_none, errW_some] <;> rfl) | (simp [*, errW_none, errW_some] <;> rfl), by repeat (first | (with_reducible first | exact HB.out | apply below_alloc | apply pw_below_drewN | apply below_drew1) | exact HB.out)⟩

end Go.Proofs.YtnmofpefofkoeaaGreatDoor.P
