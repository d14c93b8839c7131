/- Parts of the proof: the walks and laws that the last text of this claim rests on. No condition beyond each one's own. -/
import Derived.Test.YtioofhilohmfbaaGreatDoorBAll3
section
namespace Go.Proofs.YtioofhilohmfbaaGreatDoor.P
open Go.RowKit Go.Proofs.YtioofhilohmfbaaGreatDoorW.PrintWords Go.Proofs.YtioofhilohmfbaaGreatDoorW.PrintLast Go.Proofs.YtioofhilohmfbaaGreatDoorW.PrintMore
attribute [local go_sem] max2_int min2_int max_two min_two max_three min_three max_four min_four
set_option linter.unusedVariables false
set_option linter.unusedSimpArgs false
/-! ### nat_Sub: function 195 -/
def nat_Sub.f (k : Nat) (l0 : List Int) (l1 : List Int) : Option (List Int × Int) := (nat_both.f l0 l1).bind fun t1 => (if t1 = 0 then ((nat_compare.f k l0 l1).bind fun t2 => (if t2 < 0 then (some (([] : List Int), 9)) else ((nat_minus.f k l0 l1).bind fun t3 => (some (t3, 0))))) else (some (([] : List Int), t1)))
theorem nat_Sub.mono : ∀ a0 a1 k, LeO (nat_Sub.f k a0 a1) (nat_Sub.f (k + 1) a0 a1) := by
  intro a0 a1 k
  unfold nat_Sub.f
  repeat' first
      | (with_reducible exact nat_compare.mono _ _ _)
      | (with_reducible exact nat_minus.mono _ _ _)
      | (with_reducible exact LeO.refl _)
      | (with_reducible exact LeO.none _)
      | (with_reducible refine LeO.ite ?_ ?_)
      | (with_reducible refine LeO.bind ?_ (fun _ => ?_))
      | exact nat_compare.mono _ _ _
      | exact nat_minus.mono _ _ _
      | exact LeO.none _
      | refine LeO.ite ?_ ?_
      | refine LeO.bind ?_ (fun _ => ?_)
set_option maxHeartbeats 8000000 in
set_option maxRecDepth 100000 in
theorem nat_Sub.calls (k : Nat) (A0 : Option Addr) (c0 : Nat) (l0 : List Int) (A1 : Option Addr) (c1 : Nat) (l1 : List Int) (r1 : List Int) (r2 : Int) (w : World) (hr0 : Kd.C (Kd.int .u32) w A0 l0.length l0) (hc0 : l0.length ≤ c0) (hr1 : Kd.C (Kd.int .u32) w A1 l1.length l1) (hc1 : l1.length ≤ c1) (h : nat_Sub.f k l0 l1 = some (r1, r2)) :
    Calls Tryz.prog 195 #[.slice A0 l0.length c0, .slice A1 l1.length c1] w fun e w' => ∃ v0_ : Value, e = .returned (.tuple #[v0_, .int .i64 r2]) ∧ Kd.V (Kd.int .u32) 109 w' w.heap.size (fun k_ => (w.heap.size ≤ k_)) v0_ r1 ∧ Below w.heap.size w w' := by
  have HR0 := Aside0.mk hr0
  have HC0 := Aside0.mk hc0
  clear hr0 hc0
  have HR1 := Aside0.mk hr1
  have HC1 := Aside0.mk hc1
  clear hr1 hc1
  have HB := Aside0.mk (Below.refl w.heap.size w)
  have H : ((nat_both.f l0 l1).bind fun t1 => (if t1 = 0 then ((nat_compare.f k l0 l1).bind fun t2 => (if t2 < 0 then (some (([] : List Int), 9)) else ((nat_minus.f k l0 l1).bind fun t3 => (some (t3, 0))))) else (some (([] : List Int), t1)))) = some (r1, r2) := h
  clear h
  replace H := Option.bind_eq_some_iff.mp H
  obtain ⟨t1, A30, H⟩ := H
  replace H : (if t1 = 0 then ((nat_compare.f k l0 l1).bind fun t2 => (if t2 < 0 then (some (([] : List Int), 9)) else ((nat_minus.f k l0 l1).bind fun t3 => (some (t3, 0))))) else (some (([] : List Int), t1))) = some (r1, r2) := H
  have A3 := Aside0.mk A30
  clear A30
  by_cases c4 : t1 = 0
  · rw [if_pos c4] at H
    have c4b0 : (t1 == 0) = true := beq_iff_eq.mpr c4
    have c4b1 : (t1 != 0) = false := bne_eq_false_iff_eq.mpr c4
    clear c4
    replace H := Option.bind_eq_some_iff.mp H
    obtain ⟨t2, A50, H⟩ := H
    replace H : (if t2 < 0 then (some (([] : List Int), 9)) else ((nat_minus.f k l0 l1).bind fun t3 => (some (t3, 0)))) = some (r1, r2) := H
    have A5 := Aside0.mk A50
    clear A50
    by_cases c6 : t2 < 0
    · rw [if_pos c6] at H
      have c6b0 : decide (t2 < 0) = true := decide_eq_true c6
      clear c6
      simp only [Option.some.injEq, Prod.mk.injEq] at H
      obtain ⟨rfl, rfl⟩ := H
      go_enter Tryz.func195, Tryz.ntmps195
      go_wp2_with (first | (go_at_call 163; (with_reducible refine (nat_both.calls _ _ l0 _ _ l1 t1 _ ?side1 ?side2 ?side3 ?side4 A3.out).mono ?_); (case side1 => exact cc HR0.out); (case side2 => exact HC0.out); (case side3 => exact cc HR1.out); (case side4 => exact HC1.out); rintro e w' ⟨rfl, ⟨nd, rfl⟩⟩) | (go_at_call 187; (with_reducible refine (nat_compare.calls k _ _ l0 _ _ l1 t2 _ ?side1 ?side2 ?side3 ?side4 A5.out).mono ?_); (case side1 => exact cc HR0.out); (case side2 => exact HC0.out); (case side3 => exact cc HR1.out); (case side4 => exact HC1.out); rintro e w7 ⟨rfl, hb⟩; have n0_ := Aside0.mk (below_step (lc HB.out) hb); clear HB; have HB := n0_; clear n0_; (try clear hb); (try clear hb2); (try clear hk); (try clear hi)))
      go_ret2
      exact ⟨_, by first | rfl | (simp [errW_none, errW_some] <;> rfl) | (simp [*, errW_none, errW_some] <;> rfl), (Kd.V_nil _ _ _ _ _), by exact lc HB.out⟩
    · rw [if_neg c6] at H
      have c6b0 : decide (t2 < 0) = false := decide_eq_false c6
      clear c6
      replace H := Option.bind_eq_some_iff.mp H
      obtain ⟨t3, A80, H⟩ := H
      replace H : (some (t3, 0)) = some (r1, r2) := H
      have A8 := Aside0.mk A80
      clear A80
      simp only [Option.some.injEq, Prod.mk.injEq] at H
      obtain ⟨rfl, rfl⟩ := H
      go_enter Tryz.func195, Tryz.ntmps195
      go_wp2_with (first | (go_at_call 163; (with_reducible refine (nat_both.calls _ _ l0 _ _ l1 t1 _ ?side1 ?side2 ?side3 ?side4 A3.out).mono ?_); (case side1 => exact cc HR0.out); (case side2 => exact HC0.out); (case side3 => exact cc HR1.out); (case side4 => exact HC1.out); rintro e w' ⟨rfl, ⟨nd, rfl⟩⟩) | (go_at_call 187; (with_reducible refine (nat_compare.calls k _ _ l0 _ _ l1 t2 _ ?side1 ?side2 ?side3 ?side4 A5.out).mono ?_); (case side1 => exact cc HR0.out); (case side2 => exact HC0.out); (case side3 => exact cc HR1.out); (case side4 => exact HC1.out); rintro e w9 ⟨rfl, hb⟩; have n0_ := Aside0.mk (below_step (lc HB.out) hb); clear HB; have HB := n0_; clear n0_; (try clear hb); (try clear hb2); (try clear hk); (try clear hi)) | (go_at_call 191; (with_reducible refine (nat_minus.calls k _ _ l0 _ _ l1 t3 _ ?side1 ?side2 ?side3 ?side4 A8.out).mono ?_); (case side1 => exact cc (Kd.C_below HR0.out HB.out)); (case side2 => exact HC0.out); (case side3 => exact cc (Kd.C_below HR1.out HB.out)); (case side4 => exact HC1.out); rintro e w10 ⟨v4, rfl, ho0, hb⟩; have n0_ := Aside0.mk (Kd.V_lower (Kd.V_mono (ok' := fun k_ => (w.heap.size ≤ k_)) ho0 (fun k_ hk_ => (Nat.le_trans (below_size (lc HB.out)) hk_))) (below_size (lc HB.out))); have n1_ := Aside0.mk (below_step (lc HB.out) hb); clear HB; have HO5 := n0_; have HB := n1_; clear n0_ n1_; (try clear hb); (try clear hb2); (try clear hk); (try clear hi); (try clear ho0)))
      go_ret2
      exact ⟨_, by first | rfl | (simp [errW_none, errW_some] <;> rfl) | (simp [*, errW_none, errW_some] <;> rfl), by (with_reducible repeat (first | apply Kd.V_alloc | apply Kd.V_drewN | apply Kd.V_drew)); exact HO5.out, by exact lc HB.out⟩
  · rw [if_neg c4] at H
    have c4b0 : (t1 == 0) = false := beq_eq_false_iff_ne.mpr c4
    have c4b1 : (t1 != 0) = true := bne_iff_ne.mpr c4
    simp only [Option.some.injEq, Prod.mk.injEq] at H
    obtain ⟨rfl, rfl⟩ := H
    go_enter Tryz.func195, Tryz.ntmps195
    go_wp2_with (first | (go_at_call 163; (with_reducible refine (nat_both.calls _ _ l0 _ _ l1 t1 _ ?side1 ?side2 ?side3 ?side4 A3.out).mono ?_); (case side1 => exact cc HR0.out); (case side2 => exact HC0.out); (case side3 => exact cc HR1.out); (case side4 => exact HC1.out); rintro e w' ⟨rfl, ⟨nd, rfl⟩⟩))
    go_ret2
    exact ⟨_, by first | rfl | (simp [errW_none, errW_some] <;> rfl) | (simp [*, errW_none, errW_some] <;> rfl), (Kd.V_nil _ _ _ _ _), by exact lc HB.out⟩
end Go.Proofs.YtioofhilohmfbaaGreatDoor.P
end
section
namespace Go.Proofs.YtioofhilohmfbaaGreatDoor.P
open Go.RowKit Go.Proofs.YtioofhilohmfbaaGreatDoorW.PrintWords Go.Proofs.YtioofhilohmfbaaGreatDoorW.PrintLast Go.Proofs.YtioofhilohmfbaaGreatDoorW.PrintMore
attribute [local go_sem] max2_int min2_int max_two min_two max_three min_three max_four min_four
set_option linter.unusedVariables false
set_option linter.unusedSimpArgs false
/-! ### rat_sum: function 169 -/
def rat_sum.f (k : Nat) (a0 : Bool) (l1 : List Int) (a2 : Bool) (l3 : List Int) : Option (Bool × List Int) := if (a0 == a2) = true then ((nat_Add.f k l1 l3).bind fun bt1 => (some (a0, bt1.1))) else ((nat_Cmp.f k l1 l3).bind fun t5 => (if t5 < 0 then ((nat_Sub.f k l3 l1).bind fun bt6 => (some (a2, bt6.1))) else ((nat_Sub.f k l1 l3).bind fun bt10 => (some (a0, bt10.1)))))
theorem rat_sum.mono : ∀ a0 a1 a2 a3 k, LeO (rat_sum.f k a0 a1 a2 a3) (rat_sum.f (k + 1) a0 a1 a2 a3) := by
  intro a0 a1 a2 a3 k
  unfold rat_sum.f
  repeat' first
      | (with_reducible exact nat_Add.mono _ _ _)
      | (with_reducible exact nat_Cmp.mono _ _ _)
      | (with_reducible exact nat_Sub.mono _ _ _)
      | (with_reducible exact LeO.refl _)
      | (with_reducible exact LeO.none _)
      | (with_reducible refine LeO.ite ?_ ?_)
      | (with_reducible refine LeO.bind ?_ (fun _ => ?_))
      | exact nat_Add.mono _ _ _
      | exact nat_Cmp.mono _ _ _
      | exact nat_Sub.mono _ _ _
      | exact LeO.none _
      | refine LeO.ite ?_ ?_
      | refine LeO.bind ?_ (fun _ => ?_)
set_option maxHeartbeats 8000000 in
set_option maxRecDepth 100000 in
theorem rat_sum.calls (k : Nat) (a0 : Bool) (A1 : Option Addr) (c1 : Nat) (l1 : List Int) (a2 : Bool) (A3 : Option Addr) (c3 : Nat) (l3 : List Int) (r1 : Bool) (r2 : List Int) (w : World) (hr1 : Kd.C (Kd.int .u32) w A1 l1.length l1) (hc1 : l1.length ≤ c1) (hr3 : Kd.C (Kd.int .u32) w A3 l3.length l3) (hc3 : l3.length ≤ c3) (h : rat_sum.f k a0 l1 a2 l3 = some (r1, r2)) :
    Calls Tryz.prog 169 #[.bool a0, .slice A1 l1.length c1, .bool a2, .slice A3 l3.length c3] w fun e w' => ∃ v1_ : Value, e = .returned (.tuple #[.bool r1, v1_]) ∧ Kd.V (Kd.int .u32) 109 w' w.heap.size (fun k_ => (w.heap.size ≤ k_)) v1_ r2 ∧ Below w.heap.size w w' := by
  have HR1 := Aside0.mk hr1
  have HC1 := Aside0.mk hc1
  clear hr1 hc1
  have HR3 := Aside0.mk hr3
  have HC3 := Aside0.mk hc3
  clear hr3 hc3
  have HB := Aside0.mk (Below.refl w.heap.size w)
  have H : (if (a0 == a2) = true then ((nat_Add.f k l1 l3).bind fun bt1 => (some (a0, bt1.1))) else ((nat_Cmp.f k l1 l3).bind fun t5 => (if t5 < 0 then ((nat_Sub.f k l3 l1).bind fun bt6 => (some (a2, bt6.1))) else ((nat_Sub.f k l1 l3).bind fun bt10 => (some (a0, bt10.1)))))) = some (r1, r2) := h
  clear h
  by_cases c5 : (a0 == a2) = true
  · rw [if_pos c5] at H
    have c5b0 : (a0 == a2) = true := c5
    (try (have c5b1 : decide (a0 = a2) = true := by simpa using c5))
    (try (have c5b2 : (a0 == a2) = true := by simpa using c5))
    clear c5
    replace H := Option.bind_eq_some_iff.mp H
    obtain ⟨⟨t1, t4⟩, A60, H⟩ := H
    replace H : (some (a0, t1)) = some (r1, r2) := H
    have A6 := Aside0.mk A60
    clear A60
    simp only [Option.some.injEq, Prod.mk.injEq] at H
    obtain ⟨rfl, rfl⟩ := H
    go_enter Tryz.func169, Tryz.ntmps169
    go_wp2_with (first | (go_at_call 193; (with_reducible refine (nat_Add.calls k _ _ l1 _ _ l3 t1 t4 _ ?side1 ?side2 ?side3 ?side4 A6.out).mono ?_); (case side1 => exact cc HR1.out); (case side2 => exact HC1.out); (case side3 => exact cc HR3.out); (case side4 => exact HC3.out); rintro e w7 ⟨v2, rfl, ho0, hb⟩; have n0_ := Aside0.mk (Kd.V_lower (Kd.V_mono (ok' := fun k_ => (w.heap.size ≤ k_)) ho0 (fun k_ hk_ => (Nat.le_trans (below_size (lc HB.out)) hk_))) (below_size (lc HB.out))); have n1_ := Aside0.mk (below_step (lc HB.out) hb); clear HB; have HO3 := n0_; have HB := n1_; clear n0_ n1_; (try clear hb); (try clear hb2); (try clear hk); (try clear hi); (try clear ho0)))
    go_ret2
    exact ⟨_, by first | rfl | (simp [errW_none, errW_some] <;> rfl) | (simp [*, errW_none, errW_some] <;> rfl), by (with_reducible repeat (first | apply Kd.V_alloc | apply Kd.V_drewN | apply Kd.V_drew)); exact HO3.out, by exact lc HB.out⟩
  · rw [if_neg c5] at H
    have c5b0 : (a0 == a2) = false := by simpa using c5
    (try (have c5b1 : decide (a0 = a2) = false := by simpa using c5))
    (try (have c5b2 : (a0 == a2) = false := by simpa using c5))
    (try (have c5b3 : ¬ (a0 = a2) := by simpa using c5))
    clear c5
    replace H := Option.bind_eq_some_iff.mp H
    obtain ⟨t5, A80, H⟩ := H
    replace H : (if t5 < 0 then ((nat_Sub.f k l3 l1).bind fun bt6 => (some (a2, bt6.1))) else ((nat_Sub.f k l1 l3).bind fun bt10 => (some (a0, bt10.1)))) = some (r1, r2) := H
    have A8 := Aside0.mk A80
    clear A80
    by_cases c9 : t5 < 0
    · rw [if_pos c9] at H
      have c9b0 : decide (t5 < 0) = true := decide_eq_true c9
      clear c9
      replace H := Option.bind_eq_some_iff.mp H
      obtain ⟨⟨t6, t9⟩, A100, H⟩ := H
      replace H : (some (a2, t6)) = some (r1, r2) := H
      have A10 := Aside0.mk A100
      clear A100
      simp only [Option.some.injEq, Prod.mk.injEq] at H
      obtain ⟨rfl, rfl⟩ := H
      go_enter Tryz.func169, Tryz.ntmps169
      go_wp2_with (first | (go_at_call 194; (with_reducible refine (nat_Cmp.calls k _ _ l1 _ _ l3 t5 _ ?side1 ?side2 ?side3 ?side4 A8.out).mono ?_); (case side1 => exact cc HR1.out); (case side2 => exact HC1.out); (case side3 => exact cc HR3.out); (case side4 => exact HC3.out); rintro e w11 ⟨rfl, hb⟩; have n0_ := Aside0.mk (below_step (lc HB.out) hb); clear HB; have HB := n0_; clear n0_; (try clear hb); (try clear hb2); (try clear hk); (try clear hi)) | (go_at_call 195; (with_reducible refine (nat_Sub.calls k _ _ l3 _ _ l1 t6 t9 _ ?side1 ?side2 ?side3 ?side4 A10.out).mono ?_); (case side1 => exact cc (Kd.C_below HR3.out HB.out)); (case side2 => exact HC3.out); (case side3 => exact cc (Kd.C_below HR1.out HB.out)); (case side4 => exact HC1.out); rintro e w12 ⟨v7, rfl, ho0, hb⟩; have n0_ := Aside0.mk (Kd.V_lower (Kd.V_mono (ok' := fun k_ => (w.heap.size ≤ k_)) ho0 (fun k_ hk_ => (Nat.le_trans (below_size (lc HB.out)) hk_))) (below_size (lc HB.out))); have n1_ := Aside0.mk (below_step (lc HB.out) hb); clear HB; have HO8 := n0_; have HB := n1_; clear n0_ n1_; (try clear hb); (try clear hb2); (try clear hk); (try clear hi); (try clear ho0)))
      go_ret2
      exact ⟨_, by first | rfl | (simp [errW_none, errW_some] <;> rfl) | (simp [*, errW_none, errW_some] <;> rfl), by (with_reducible repeat (first | apply Kd.V_alloc | apply Kd.V_drewN | apply Kd.V_drew)); exact HO8.out, by exact lc HB.out⟩
    · rw [if_neg c9] at H
      have c9b0 : decide (t5 < 0) = false := decide_eq_false c9
      clear c9
      replace H := Option.bind_eq_some_iff.mp H
      obtain ⟨⟨t10, t13⟩, A130, H⟩ := H
      replace H : (some (a0, t10)) = some (r1, r2) := H
      have A13 := Aside0.mk A130
      clear A130
      simp only [Option.some.injEq, Prod.mk.injEq] at H
      obtain ⟨rfl, rfl⟩ := H
      go_enter Tryz.func169, Tryz.ntmps169
      go_wp2_with (first | (go_at_call 194; (with_reducible refine (nat_Cmp.calls k _ _ l1 _ _ l3 t5 _ ?side1 ?side2 ?side3 ?side4 A8.out).mono ?_); (case side1 => exact cc HR1.out); (case side2 => exact HC1.out); (case side3 => exact cc HR3.out); (case side4 => exact HC3.out); rintro e w14 ⟨rfl, hb⟩; have n0_ := Aside0.mk (below_step (lc HB.out) hb); clear HB; have HB := n0_; clear n0_; (try clear hb); (try clear hb2); (try clear hk); (try clear hi)) | (go_at_call 195; (with_reducible refine (nat_Sub.calls k _ _ l1 _ _ l3 t10 t13 _ ?side1 ?side2 ?side3 ?side4 A13.out).mono ?_); (case side1 => exact cc (Kd.C_below HR1.out HB.out)); (case side2 => exact HC1.out); (case side3 => exact cc (Kd.C_below HR3.out HB.out)); (case side4 => exact HC3.out); rintro e w15 ⟨v11, rfl, ho0, hb⟩; have n0_ := Aside0.mk (Kd.V_lower (Kd.V_mono (ok' := fun k_ => (w.heap.size ≤ k_)) ho0 (fun k_ hk_ => (Nat.le_trans (below_size (lc HB.out)) hk_))) (below_size (lc HB.out))); have n1_ := Aside0.mk (below_step (lc HB.out) hb); clear HB; have HO12 := n0_; have HB := n1_; clear n0_ n1_; (try clear hb); (try clear hb2); (try clear hk); (try clear hi); (try clear ho0)))
      go_ret2
      exact ⟨_, by first | rfl | (simp [errW_none, errW_some] <;> rfl) | (simp [*, errW_none, errW_some] <;> rfl), by (with_reducible repeat (first | apply Kd.V_alloc | apply Kd.V_drewN | apply Kd.V_drew)); exact HO12.out, by exact lc HB.out⟩
end Go.Proofs.YtioofhilohmfbaaGreatDoor.P
end
section
set_option linter.unusedVariables false
set_option linter.unusedSimpArgs false
namespace Go.Proofs.YtioofhilohmfbaaGreatDoor.P
open Go Go.RowKit Go.Lib Go.Proofs.YtioofhilohmfbaaGreatDoorW.PrintWords Go.Proofs.YtioofhilohmfbaaGreatDoorW.PrintLast Go.Proofs.YtioofhilohmfbaaGreatDoorW.PrintMore
theorem cells3 {W : World} {g : Nat} {t : TypeId} {a b c : Value} (h : W.heap[g]? = some (.cells #[a, b, c] t (0, 0))) : W.cell? ⟨g, 0, none⟩ = some a ∧ W.cell? ⟨g, 1, none⟩ = some b ∧ W.cell? ⟨g, 2, none⟩ = some c := ⟨blk_cell h 0, blk_cell h 1, blk_cell h 2⟩
theorem six {W : World} {g1 g2 : Nat} {t1 t2 : TypeId} {a b c d e f : Value} (h1 : W.heap[g1]? = some (.cells #[a, b, c] t1 (0, 0))) (h2 : W.heap[g2]? = some (.cells #[d, e, f] t2 (0, 0))) : W.cell? ⟨g1, 0, none⟩ = some a ∧ W.cell? ⟨g1, 1, none⟩ = some b ∧ W.cell? ⟨g1, 2, none⟩ = some c ∧ W.cell? ⟨g2, 0, none⟩ = some d ∧ W.cell? ⟨g2, 1, none⟩ = some e ∧ W.cell? ⟨g2, 2, none⟩ = some f := ⟨blk_cell h1 0, blk_cell h1 1, blk_cell h1 2, blk_cell h2 0, blk_cell h2 1, blk_cell h2 2⟩
theorem six_set {W : World} {g1 g2 g3 : Nat} {t1 t2 : TypeId} {a b c d e f : Value} (h1 : W.heap[g1]? = some (.cells #[a, b, c] t1 (0, 0))) (h2 : W.heap[g2]? = some (.cells #[d, e, f] t2 (0, 0))) (n1 : g1 ≠ g3) (n2 : g2 ≠ g3) (u v x : Value) : (fun W : World => W.cell? ⟨g1, 0, none⟩ = some a ∧ W.cell? ⟨g1, 1, none⟩ = some b ∧ W.cell? ⟨g1, 2, none⟩ = some c ∧ W.cell? ⟨g2, 0, none⟩ = some d ∧ W.cell? ⟨g2, 1, none⟩ = some e ∧ W.cell? ⟨g2, 2, none⟩ = some f) (((W.setCell ⟨g3, 0, none⟩ u).setCell ⟨g3, 1, none⟩ v).setCell ⟨g3, 2, none⟩ x) :=
  six (blk_far (p := ⟨g3, 2, none⟩) (blk_far (p := ⟨g3, 1, none⟩) (blk_far (p := ⟨g3, 0, none⟩) h1 n1 u) n1 v) n1 x) (blk_far (p := ⟨g3, 2, none⟩) (blk_far (p := ⟨g3, 1, none⟩) (blk_far (p := ⟨g3, 0, none⟩) h2 n2 u) n2 v) n2 x)
theorem blk_new2 (w : World) (o : Obj) {g : Nat} (h : g = w.heap.size) : (w.alloc o).heap[g]? = some o := by subst h; exact blk_new w o
theorem froz3 {W : World} {g : Nat} {t : TypeId} {cs : Array Value} (h : W.heap[g]? = some (.cells cs t (0, 0))) : W.frozen? ⟨g, 0, none⟩ = false ∧ W.frozen? ⟨g, 1, none⟩ = false ∧ W.frozen? ⟨g, 2, none⟩ = false := ⟨blk_frozen h 0, blk_frozen h 1, blk_frozen h 2⟩
theorem put3 {W : World} {g : Nat} {t : TypeId} {a b c : Value} (h : W.heap[g]? = some (.cells #[a, b, c] t (0, 0))) (u v x : Value) : (((W.setCell ⟨g, 0, none⟩ u).setCell ⟨g, 1, none⟩ v).setCell ⟨g, 2, none⟩ x).heap[g]? = some (.cells #[u, v, x] t (0, 0)) :=
  blk_put (blk_put (blk_put h 0 u (cs' := #[u, b, c]) rfl) 1 v (cs' := #[u, v, c]) rfl) 2 x rfl
theorem lset3 {w W : World} {g : Nat} (h : Below w.heap.size w W) (hg : w.heap.size ≤ g) (u v x : Value) : Below w.heap.size w (((W.setCell ⟨g, 0, none⟩ u).setCell ⟨g, 1, none⟩ v).setCell ⟨g, 2, none⟩ x) := below_set (below_set (below_set h hg) hg) hg
theorem rset3 {e base g : Nat} {W : World} {ok : Nat → Prop} {v : Value} {xs : List Int} (h : Kd.R (Kd.int .u32) e W base ok v xs) (hg : g < base) (u0 u1 u2 : Value) : Kd.R (Kd.int .u32) e (((W.setCell ⟨g, 0, none⟩ u0).setCell ⟨g, 1, none⟩ u1).setCell ⟨g, 2, none⟩ u2) base ok v xs :=
  Kd.R_mono (Kd.R_far (p := ⟨g, 2, none⟩) (Kd.R_far (p := ⟨g, 1, none⟩) (Kd.R_far (p := ⟨g, 0, none⟩) (Kd.R_mono (ok' := fun k => ok k ∧ k ≠ g) (Kd.R_bound h) (fun k hk => ⟨hk.1, by have := hk.2.1; omega⟩)) (fun _ hk => hk.2) u0) (fun _ hk => hk.2) u1) (fun _ hk => hk.2) u2) (fun _ hk => hk.1)
/-- A row stands in a world and in all later ones. -/
def Row (w : World) (A : Option Addr) (c : Nat) (l : List Int) : Prop := ∀ W, Below w.heap.size w W → Kd.V (Kd.int .u32) 109 W w.heap.size (fun _ => True) (.slice A l.length c) l
theorem Row.mk {w : World} {A : Option Addr} {c b : Nat} {l : List Int} {ok : Nat → Prop} (h : Kd.V (Kd.int .u32) 109 w b ok (.slice A l.length c) l) : Row w A c l := fun W hb => Kd.V_map (Kd.V_below (Kd.V_mono h (fun _ _ => trivial)) hb) (fun _ h => h)
theorem Row.to {w W : World} {A : Option Addr} {c : Nat} {l : List Int} (h : Row w A c l) (hb : Below w.heap.size w W) : Kd.V (Kd.int .u32) 109 W w.heap.size (fun _ => True) (.slice A l.length c) l := h W hb
theorem rows_C {W : World} {g b1 b2 : Nat} {t : TypeId} {A B : Option Addr} {l m : List Int} {c d : Nat} (hb : W.heap[g]? = some (.cells #[.slice A l.length c, .slice B m.length d] t (0, 0))) (h1 : Kd.V (Kd.int .u32) 109 W b1 (fun _ => True) (.slice A l.length c) l) (h2 : Kd.V (Kd.int .u32) 109 W b2 (fun _ => True) (.slice B m.length d) m) : Kd.C (Kd.slice 109 (Kd.int .u32)) W (some ⟨g, 0, none⟩) 2 [l, m] := by
  refine ⟨rfl, by decide, fun _ => ⟨_, rfl, fun j p hj => ?_⟩⟩
  match j, hj with
  | 0, hj =>
    cases hj
    exact ⟨[.slice A l.length c], rfl, ⟨A, c, rfl, (Kd.V_reads' h1).2.1, (Kd.V_reads' h1).2.2⟩, fun i u hu => by
      have hi : i = 0 := by have := (List.getElem?_eq_some_iff.1 hu).1; simp at this; omega
      subst hi
      cases hu
      exact blk_cell hb 0⟩
  | 1, hj =>
    cases hj
    exact ⟨[.slice B m.length d], rfl, ⟨B, d, rfl, (Kd.V_reads' h2).2.1, (Kd.V_reads' h2).2.2⟩, fun i u hu => by
      have hi : i = 0 := by have := (List.getElem?_eq_some_iff.1 hu).1; simp at this; omega
      subst hi
      cases hu
      exact blk_cell hb 1⟩
  | j + 2, hj => simp at hj
theorem product2 (k : Nat) {l m : List Int} {A B : Option Addr} {c d : Nat} (t : List Int) (W : World) {g b1 b2 : Nat} {ty : TypeId} (h : rat_product.f k [l, m] = some t) (h1 : Kd.V (Kd.int .u32) 109 W b1 (fun _ => True) (.slice A l.length c) l) (h2 : Kd.V (Kd.int .u32) 109 W b2 (fun _ => True) (.slice B m.length d) m) (hb : W.heap[g]? = some (.cells #[.slice A l.length c, .slice B m.length d] ty (0, 0))) :
    Calls Tryz.prog 144 #[.slice (some ⟨g, 0, none⟩) 2 2] W fun e w' => ∃ v0_ : Value, e = .returned v0_ ∧ Kd.V (Kd.int .u32) 109 w' W.heap.size (fun k_ => W.heap.size ≤ k_) v0_ t ∧ Below W.heap.size W w' :=
  rat_product.calls k (some ⟨g, 0, none⟩) 2 [l, m] t W (rows_C hb h1 h2) (Nat.le_refl 2) h
theorem gb_lt {w4 W w' : World} {g : Nat} (_ : Below W.heap.size W w') (h : Below w4.heap.size w4 W → g < W.heap.size) (hb : Below w4.heap.size w4 W) : g < W.heap.size := h hb
theorem gb_le {w W w' : World} (_ : Below W.heap.size W w') (hb : Below w.heap.size w W) : w.heap.size ≤ W.heap.size := below_size hb
/-- What they hand back. -/
def RatPost (w : World) (r1 : Bool) (r2 r3 : List Int) (r4 : Int) (e : Ending) (w' : World) : Prop := ∃ v1_ v2_ : Value, e = .returned (.tuple #[.agg #[.bool r1, v1_, v2_], .int .i64 r4]) ∧ Kd.R (Kd.int .u32) 109 w' w.heap.size (fun k_ => some k_ ≠ v2_.ownBlock) v1_ r2 ∧ Kd.R (Kd.int .u32) 109 w' w.heap.size (fun k_ => some k_ ≠ v1_.ownBlock) v2_ r3 ∧ Below w.heap.size w w'
def rat_Mul.f (k : Nat) (a0_0 : Bool) (l0_1 : List Int) (l0_2 : List Int) (a1_0 : Bool) (l1_1 : List Int) (l1_2 : List Int) : Option (Bool × List Int × List Int × Int) := (rat_both.f k a0_0 l0_1 l0_2 a1_0 l1_1 l1_2).bind fun t4 => (if t4 = 0 then ((rat_product.f k (([l0_1, l1_1] : List (List Int)))).bind fun t8 => ((rat_product.f k (([l0_2, l1_2] : List (List Int)))).bind fun t14 => ((rat_reduced.f k (a0_0 != a1_0) t8 t14).bind fun bt17 => (some (bt17.1, bt17.2.1, bt17.2.2.1, bt17.2.2.2))))) else (some (false, ([] : List Int), ([] : List Int), t4)))
theorem rat_Mul.mono : ∀ a0 a1 a2 a3 a4 a5 k, LeO (rat_Mul.f k a0 a1 a2 a3 a4 a5) (rat_Mul.f (k + 1) a0 a1 a2 a3 a4 a5) := by
  intro a0 a1 a2 a3 a4 a5 k
  unfold rat_Mul.f
  repeat' first
      | (with_reducible exact rat_both.mono _ _ _ _ _ _ _)
      | (with_reducible exact rat_product.mono _ _)
      | (with_reducible exact rat_reduced.mono _ _ _ _)
      | (with_reducible exact LeO.refl _)
      | (with_reducible exact LeO.none _)
      | (with_reducible refine LeO.ite ?_ ?_)
      | (with_reducible refine LeO.bind ?_ (fun _ => ?_))
      | exact rat_both.mono _ _ _ _ _ _ _
      | exact rat_product.mono _ _
      | exact rat_reduced.mono _ _ _ _
      | exact LeO.none _
      | refine LeO.ite ?_ ?_
      | refine LeO.bind ?_ (fun _ => ?_)
def rat_Div.f (k : Nat) (a0_0 : Bool) (l0_1 : List Int) (l0_2 : List Int) (a1_0 : Bool) (l1_1 : List Int) (l1_2 : List Int) : Option (Bool × List Int × List Int × Int) := (rat_both.f k a0_0 l0_1 l0_2 a1_0 l1_1 l1_2).bind fun t4 => (if t4 = 0 then (if (l1_1.length : Int) = 0 then (some (false, ([] : List Int), ([] : List Int), 21)) else ((rat_product.f k (([l0_1, l1_2] : List (List Int)))).bind fun t8 => ((rat_product.f k (([l0_2, l1_1] : List (List Int)))).bind fun t14 => ((rat_reduced.f k (a0_0 != a1_0) t8 t14).bind fun bt17 => (some (bt17.1, bt17.2.1, bt17.2.2.1, bt17.2.2.2)))))) else (some (false, ([] : List Int), ([] : List Int), t4)))
theorem rat_Div.mono : ∀ a0 a1 a2 a3 a4 a5 k, LeO (rat_Div.f k a0 a1 a2 a3 a4 a5) (rat_Div.f (k + 1) a0 a1 a2 a3 a4 a5) := by
  intro a0 a1 a2 a3 a4 a5 k
  unfold rat_Div.f
  repeat' first
      | (with_reducible exact rat_both.mono _ _ _ _ _ _ _)
      | (with_reducible exact rat_product.mono _ _)
      | (with_reducible exact rat_reduced.mono _ _ _ _)
      | (with_reducible exact LeO.refl _)
      | (with_reducible exact LeO.none _)
      | (with_reducible refine LeO.ite ?_ ?_)
      | (with_reducible refine LeO.bind ?_ (fun _ => ?_))
      | exact rat_both.mono _ _ _ _ _ _ _
      | exact rat_product.mono _ _
      | exact rat_reduced.mono _ _ _ _
      | exact LeO.none _
      | refine LeO.ite ?_ ?_
      | refine LeO.bind ?_ (fun _ => ?_)
def rat_Add.f (k : Nat) (a0_0 : Bool) (l0_1 : List Int) (l0_2 : List Int) (a1_0 : Bool) (l1_1 : List Int) (l1_2 : List Int) : Option (Bool × List Int × List Int × Int) := (rat_both.f k a0_0 l0_1 l0_2 a1_0 l1_1 l1_2).bind fun t4 => (if t4 = 0 then ((rat_product.f k (([l0_1, l1_2] : List (List Int)))).bind fun t8 => ((rat_product.f k (([l1_1, l0_2] : List (List Int)))).bind fun t14 => ((rat_sum.f k a0_0 t8 a1_0 t14).bind fun bt17 => ((rat_product.f k (([l0_2, l1_2] : List (List Int)))).bind fun t24 => ((rat_reduced.f k bt17.1 bt17.2 t24).bind fun bt27 => (some (bt27.1, bt27.2.1, bt27.2.2.1, bt27.2.2.2))))))) else (some (false, ([] : List Int), ([] : List Int), t4)))
theorem rat_Add.mono : ∀ a0 a1 a2 a3 a4 a5 k, LeO (rat_Add.f k a0 a1 a2 a3 a4 a5) (rat_Add.f (k + 1) a0 a1 a2 a3 a4 a5) := by
  intro a0 a1 a2 a3 a4 a5 k
  unfold rat_Add.f
  repeat' first
      | (with_reducible exact rat_both.mono _ _ _ _ _ _ _)
      | (with_reducible exact rat_product.mono _ _)
      | (with_reducible exact rat_reduced.mono _ _ _ _)
      | (with_reducible exact rat_sum.mono _ _ _ _ _)
      | (with_reducible exact LeO.refl _)
      | (with_reducible exact LeO.none _)
      | (with_reducible refine LeO.ite ?_ ?_)
      | (with_reducible refine LeO.bind ?_ (fun _ => ?_))
      | exact rat_both.mono _ _ _ _ _ _ _
      | exact rat_product.mono _ _
      | exact rat_reduced.mono _ _ _ _
      | exact rat_sum.mono _ _ _ _ _
      | exact LeO.none _
      | refine LeO.ite ?_ ?_
      | refine LeO.bind ?_ (fun _ => ?_)
set_option maxRecDepth 100000 in
set_option maxHeartbeats 8000000 in
theorem mul_no (k : Nat) (x : Bool) (A1 : Option Addr) (c1 : Nat) (l1 : List Int) (A2 : Option Addr) (c2 : Nat) (l2 : List Int) (y : Bool) (B1 : Option Addr) (d1 : Nat) (m1 : List Int) (B2 : Option Addr) (d2 : Nat) (m2 : List Int) (t : Int) (w : World) (V1 : Aside0 (Row w A1 c1 l1)) (V2 : Aside0 (Row w A2 c2 l2)) (V3 : Aside0 (Row w B1 d1 m1)) (V4 : Aside0 (Row w B2 d2 m2)) (h0 : rat_both.f k x l1 l2 y m1 m2 = some t) (ht : t ≠ 0) : Calls Tryz.prog 102 #[.agg #[.bool x, .slice A1 l1.length c1, .slice A2 l2.length c2], .agg #[.bool y, .slice B1 m1.length d1, .slice B2 m2.length d2]] w (RatPost w false [] [] t) := by
  have E0 := Aside0.mk h0
  have hc1 : (t != 0) = true := bne_iff_ne.2 ht
  have hc2 : (t == 0) = false := beq_eq_false_iff_ne.2 ht
  clear h0 ht
  have HB0 := Aside0.mk (Below.refl w.heap.size w)
  go_enter Tryz.func102, Tryz.ntmps102
  go_wp2_with (first
    | ((with_reducible refine gate_dst (N := 2) rfl ?_); refine box_event ?hg (N := 2) ?hd (cs := #[.bool x, .slice A1 l1.length c1, .slice A2 l2.length c2]) (t := 41) ?hr ?_; (case hd => rfl); (case hg => rfl); (case hr => first | (go_simp; done) | (go_simp; rfl)); intro g1 hg1 w1 hbox hb; have K1 := Aside0.mk hbox; have L1 := Aside0.mk (show w.heap.size ≤ g1 by rw [hg1]; exact below_size HB0.out); have HB := Aside0.mk (below_step HB0.out hb); clear hg1 hbox hb)
    | ((with_reducible refine gate_dst (N := 3) rfl ?_); refine box_event ?hg (N := 3) ?hd (cs := #[.bool y, .slice B1 m1.length d1, .slice B2 m2.length d2]) (t := 41) ?hr ?_; (case hd => rfl); (case hg => rfl); (case hr => first | (go_simp; done) | (go_simp; rfl)); intro g2 hg2 w2 hbox hb; have K1 := Aside0.mk (blk_below K1.out hb); have K2 := Aside0.mk hbox; have L2 := Aside0.mk (show w.heap.size ≤ g2 by rw [hg2]; exact below_size HB.out); have HB := Aside0.mk (below_step HB.out hb); clear hg2 hbox hb)
    | ((with_reducible refine gate_dst (N := 4) rfl ?_); refine box_event ?hg (N := 4) ?hd (cs := #[.bool false, .slice none 0 0, .slice none 0 0]) (t := 41) ?hr ?_; (case hd => rfl); (case hg => rfl); (case hr => first | (go_simp; done) | (go_simp; rfl)); intro g3 hg3 w3 hbox hb; have N1 := Aside0.mk (show g1 ≠ g3 by rw [hg3]; exact Nat.ne_of_lt (blk_lt K1.out)); have N2 := Aside0.mk (show g2 ≠ g3 by rw [hg3]; exact Nat.ne_of_lt (blk_lt K2.out)); have K1 := Aside0.mk (blk_below K1.out hb); have K2 := Aside0.mk (blk_below K2.out hb); have K3 := Aside0.mk hbox; have L3 := Aside0.mk (show w.heap.size ≤ g3 by rw [hg3]; exact below_size HB.out); have HB := Aside0.mk (below_step HB.out hb); clear hg3 hbox hb; obtain ⟨h10, h11, h12⟩ := cells3 K1.out; obtain ⟨h20, h21, h22⟩ := cells3 K2.out)
    | (go_at_call 143; (with_reducible refine (rat_both.calls k x A1 c1 l1 A2 c2 l2 y B1 d1 m1 B2 d2 m2 t _ (Kd.V_reads' (V1.out.to HB.out)).2.2 (Kd.V_reads' (V1.out.to HB.out)).2.1 (Kd.V_reads' (V2.out.to HB.out)).2.2 (Kd.V_reads' (V2.out.to HB.out)).2.1 (Kd.V_reads' (V3.out.to HB.out)).2.2 (Kd.V_reads' (V3.out.to HB.out)).2.1 (Kd.V_reads' (V4.out.to HB.out)).2.2 (Kd.V_reads' (V4.out.to HB.out)).2.1 E0.out).mono ?_); rintro e w4 ⟨rfl, hb⟩; have F1 := Aside0.mk (fun W (hW : Below w4.heap.size w4 W) => blk_below (blk_below K1.out hb) hW); have F2 := Aside0.mk (fun W (hW : Below w4.heap.size w4 W) => blk_below (blk_below K2.out hb) hW); have F3 := Aside0.mk (fun W (hW : Below w4.heap.size w4 W) => blk_below (blk_below K3.out hb) hW); have HB4 := Aside0.mk (below_step HB.out hb); have HW := Aside0.mk (Below.refl w4.heap.size w4); clear hb h10 h11 h12 h20 h21 h22 K1 K2 K3 HB; obtain ⟨h10, h11, h12⟩ := cells3 (F1.out _ HW.out); obtain ⟨h20, h21, h22⟩ := cells3 (F2.out _ HW.out); obtain ⟨h30, h31, h32⟩ := cells3 (F3.out _ HW.out); obtain ⟨f30, f31, f32⟩ := froz3 (F3.out _ HW.out)))
  refine bodyPost_ret (results_ct rfl _ _ g3 41 #[.bool false, .slice none 0 0, .slice none 0 0] (0, 0) _ rfl (put3 (F3.out _ HW.out) (.bool false) (.slice none 0 0) (.slice none 0 0)) Tryz.underlying41 rfl (by kernel_rfl)) rfl ?_
  exact ⟨_, _, rfl, Kd.R_nil _ _ _ _ _, Kd.R_nil _ _ _ _ _, lset3 (below_step HB4.out HW.out) L3.out _ _ _⟩
set_option maxRecDepth 100000 in
set_option maxHeartbeats 8000000 in
theorem mul_yes (k : Nat) (x : Bool) (A1 : Option Addr) (c1 : Nat) (l1 : List Int) (A2 : Option Addr) (c2 : Nat) (l2 : List Int) (y : Bool) (B1 : Option Addr) (d1 : Nat) (m1 : List Int) (B2 : Option Addr) (d2 : Nat) (m2 : List Int) (t1 t2 : List Int) (r1 : Bool) (r2 r3 : List Int) (r4 : Int) (w : World) (V1 : Aside0 (Row w A1 c1 l1)) (V2 : Aside0 (Row w A2 c2 l2)) (V3 : Aside0 (Row w B1 d1 m1)) (V4 : Aside0 (Row w B2 d2 m2)) (h0 : rat_both.f k x l1 l2 y m1 m2 = some 0) (h1 : rat_product.f k [l1, m1] = some t1) (h2 : rat_product.f k [l2, m2] = some t2) (h3 : rat_reduced.f k (x != y) t1 t2 = some (r1, r2, r3, r4)) : Calls Tryz.prog 102 #[.agg #[.bool x, .slice A1 l1.length c1, .slice A2 l2.length c2], .agg #[.bool y, .slice B1 m1.length d1, .slice B2 m2.length d2]] w (RatPost w r1 r2 r3 r4) := by
  have E0 := Aside0.mk h0
  have E1 := Aside0.mk h1
  have E2 := Aside0.mk h2
  have ER := Aside0.mk (show rat_reduced.f k (!(x == y)) t1 t2 = some (r1, r2, r3, r4) from h3)
  clear h0 h1 h2 h3
  have HB0 := Aside0.mk (Below.refl w.heap.size w)
  go_enter Tryz.func102, Tryz.ntmps102
  go_wp2_with (first
    | ((with_reducible refine gate_dst (N := 2) rfl ?_); refine box_event ?hg (N := 2) ?hd (cs := #[.bool x, .slice A1 l1.length c1, .slice A2 l2.length c2]) (t := 41) ?hr ?_; (case hd => rfl); (case hg => rfl); (case hr => first | (go_simp; done) | (go_simp; rfl)); intro g1 hg1 w1 hbox hb; have K1 := Aside0.mk hbox; have L1 := Aside0.mk (show w.heap.size ≤ g1 by rw [hg1]; exact below_size HB0.out); have HB := Aside0.mk (below_step HB0.out hb); clear hg1 hbox hb)
    | ((with_reducible refine gate_dst (N := 3) rfl ?_); refine box_event ?hg (N := 3) ?hd (cs := #[.bool y, .slice B1 m1.length d1, .slice B2 m2.length d2]) (t := 41) ?hr ?_; (case hd => rfl); (case hg => rfl); (case hr => first | (go_simp; done) | (go_simp; rfl)); intro g2 hg2 w2 hbox hb; have K1 := Aside0.mk (blk_below K1.out hb); have K2 := Aside0.mk hbox; have L2 := Aside0.mk (show w.heap.size ≤ g2 by rw [hg2]; exact below_size HB.out); have HB := Aside0.mk (below_step HB.out hb); clear hg2 hbox hb)
    | ((with_reducible refine gate_dst (N := 4) rfl ?_); refine box_event ?hg (N := 4) ?hd (cs := #[.bool false, .slice none 0 0, .slice none 0 0]) (t := 41) ?hr ?_; (case hd => rfl); (case hg => rfl); (case hr => first | (go_simp; done) | (go_simp; rfl)); intro g3 hg3 w3 hbox hb; have N1 := Aside0.mk (show g1 ≠ g3 by rw [hg3]; exact Nat.ne_of_lt (blk_lt K1.out)); have N2 := Aside0.mk (show g2 ≠ g3 by rw [hg3]; exact Nat.ne_of_lt (blk_lt K2.out)); have K1 := Aside0.mk (blk_below K1.out hb); have K2 := Aside0.mk (blk_below K2.out hb); have K3 := Aside0.mk hbox; have L3 := Aside0.mk (show w.heap.size ≤ g3 by rw [hg3]; exact below_size HB.out); have HB := Aside0.mk (below_step HB.out hb); clear hg3 hbox hb; obtain ⟨h10, h11, h12⟩ := cells3 K1.out; obtain ⟨h20, h21, h22⟩ := cells3 K2.out)
    | (go_at_call 143; (with_reducible refine (rat_both.calls k x A1 c1 l1 A2 c2 l2 y B1 d1 m1 B2 d2 m2 0 _ (Kd.V_reads' (V1.out.to HB.out)).2.2 (Kd.V_reads' (V1.out.to HB.out)).2.1 (Kd.V_reads' (V2.out.to HB.out)).2.2 (Kd.V_reads' (V2.out.to HB.out)).2.1 (Kd.V_reads' (V3.out.to HB.out)).2.2 (Kd.V_reads' (V3.out.to HB.out)).2.1 (Kd.V_reads' (V4.out.to HB.out)).2.2 (Kd.V_reads' (V4.out.to HB.out)).2.1 E0.out).mono ?_); rintro e w4 ⟨rfl, hb⟩; have F1 := Aside0.mk (fun W (hW : Below w4.heap.size w4 W) => blk_below (blk_below K1.out hb) hW); have F2 := Aside0.mk (fun W (hW : Below w4.heap.size w4 W) => blk_below (blk_below K2.out hb) hW); have F3 := Aside0.mk (fun W (hW : Below w4.heap.size w4 W) => blk_below (blk_below K3.out hb) hW); have HB4 := Aside0.mk (below_step HB.out hb); have HW := Aside0.mk (Below.refl w4.heap.size w4); clear hb h10 h11 h12 h20 h21 h22 K1 K2 K3 HB; obtain ⟨h10, h11, h12⟩ := cells3 (F1.out _ HW.out); obtain ⟨h20, h21, h22⟩ := cells3 (F2.out _ HW.out); obtain ⟨h30, h31, h32⟩ := cells3 (F3.out _ HW.out); obtain ⟨f30, f31, f32⟩ := froz3 (F3.out _ HW.out)))
  go_region_held3 (fun w' => w'.cell? ⟨g1, 0, none⟩ = some (.bool x) ∧ w'.cell? ⟨g1, 1, none⟩ = some (.slice A1 l1.length c1) ∧ w'.cell? ⟨g1, 2, none⟩ = some (.slice A2 l2.length c2) ∧ w'.cell? ⟨g2, 0, none⟩ = some (.bool y) ∧ w'.cell? ⟨g2, 1, none⟩ = some (.slice B1 m1.length d1) ∧ w'.cell? ⟨g2, 2, none⟩ = some (.slice B2 m2.length d2)) (first | (with_reducible refine six_set (F1.out _ ?_) (F2.out _ ?_) N1.out N2.out _ _ _ <;> (repeat (with_reducible first | exact HW.out | apply below_alloc | apply pw_below_drewN | apply below_drew1)); done) | (with_reducible refine six (F1.out _ ?_) (F2.out _ ?_) <;> (repeat (with_reducible first | exact HW.out | apply below_alloc | apply pw_below_drewN | apply below_drew1)); done)) (first
    | (go_simp; go_at_call 144; (fail_if_success (have hx_ := P1)); (with_reducible refine (product2 k t1 _ (ty := 39) E1.out (V1.out.to (below_step HB4.out (by repeat (with_reducible first | exact HW.out | apply below_alloc | apply pw_below_drewN | apply below_drew1)))) (V3.out.to (below_step HB4.out (by repeat (with_reducible first | exact HW.out | apply below_alloc | apply pw_below_drewN | apply below_drew1)))) ?blk).mono ?_); (case blk => repeat (with_reducible first | exact blk_new _ _ | (refine blk_new2 _ _ ?_; simp; done) | refine blk_drew ?_ | refine blk_drewN ?_ _ | refine blk_alloc ?_ _ | refine HS.out _ _ ?_)); rintro e wp1 ⟨vp1, rfl, ho, hb⟩; dsimp only; (try clear HS); have HS := Aside0.mk (fun g o hg => blk_below (g := g) (o := o) hg hb); have hw_ := below_step (by repeat (with_reducible first | exact HW.out | apply below_alloc | apply pw_below_drewN | apply below_drew1)) hb; (try have P1_ := Aside0.mk (Kd.V_below (by (with_reducible repeat (first | apply Kd.V_alloc | apply Kd.V_drewN | apply Kd.V_drew)); exact P1.out) hb)); (try clear P1); (try have P1 := P1_); (try clear P1_); (try have P2_ := Aside0.mk (Kd.V_below (by (with_reducible repeat (first | apply Kd.V_alloc | apply Kd.V_drewN | apply Kd.V_drew)); exact P2.out) hb)); (try clear P2); (try have P2 := P2_); (try clear P2_); clear HW h10 h11 h12 h20 h21 h22 h30 h31 h32 f30 f31 f32; have HW := Aside0.mk hw_; clear hw_; obtain ⟨h10, h11, h12⟩ := cells3 (F1.out _ HW.out); obtain ⟨h20, h21, h22⟩ := cells3 (F2.out _ HW.out); obtain ⟨h30, h31, h32⟩ := cells3 (F3.out _ HW.out); obtain ⟨f30, f31, f32⟩ := froz3 (F3.out _ HW.out); have P1 := Aside0.mk ho; obtain ⟨J1, j1, e1⟩ := Kd.V_slice P1.out; subst e1; clear ho hb)
    | (go_simp; go_at_call 144; (with_reducible refine (product2 k t2 _ (ty := 39) E2.out (V2.out.to (below_step HB4.out (by repeat (with_reducible first | exact HW.out | apply below_alloc | apply pw_below_drewN | apply below_drew1)))) (V4.out.to (below_step HB4.out (by repeat (with_reducible first | exact HW.out | apply below_alloc | apply pw_below_drewN | apply below_drew1)))) ?blk).mono ?_); (case blk => repeat (with_reducible first | exact blk_new _ _ | (refine blk_new2 _ _ ?_; simp; done) | refine blk_drew ?_ | refine blk_drewN ?_ _ | refine blk_alloc ?_ _ | refine HS.out _ _ ?_)); rintro e wp2 ⟨vp2, rfl, ho, hb⟩; dsimp only; (try clear HS); have HS := Aside0.mk (fun g o hg => blk_below (g := g) (o := o) hg hb); have hw_ := below_step (by repeat (with_reducible first | exact HW.out | apply below_alloc | apply pw_below_drewN | apply below_drew1)) hb; (try have P1_ := Aside0.mk (Kd.V_below (by (with_reducible repeat (first | apply Kd.V_alloc | apply Kd.V_drewN | apply Kd.V_drew)); exact P1.out) hb)); (try clear P1); (try have P1 := P1_); (try clear P1_); (try have P2_ := Aside0.mk (Kd.V_below (by (with_reducible repeat (first | apply Kd.V_alloc | apply Kd.V_drewN | apply Kd.V_drew)); exact P2.out) hb)); (try clear P2); (try have P2 := P2_); (try clear P2_); clear HW h10 h11 h12 h20 h21 h22 h30 h31 h32 f30 f31 f32; have HW := Aside0.mk hw_; clear hw_; obtain ⟨h10, h11, h12⟩ := cells3 (F1.out _ HW.out); obtain ⟨h20, h21, h22⟩ := cells3 (F2.out _ HW.out); obtain ⟨h30, h31, h32⟩ := cells3 (F3.out _ HW.out); obtain ⟨f30, f31, f32⟩ := froz3 (F3.out _ HW.out); have P2 := Aside0.mk ho; obtain ⟨J2, j2, e2⟩ := Kd.V_slice P2.out; subst e2; clear ho hb)
    | (go_simp; go_at_call 139; (with_reducible refine (rat_reduced.calls k (!(x == y)) J1 j1 t1 J2 j2 t2 r1 r2 r3 r4 _ ?s1 (Kd.V_reads' P1.out).2.1 ?s2 (Kd.V_reads' P2.out).2.1 ER.out).mono ?_); (case s1 => (with_reducible repeat (first | refine Kd.C_alloc ?_ _ | refine Kd.C_drewN ?_ _ | refine Kd.C_drew ?_)); exact (Kd.V_reads' P1.out).2.2); (case s2 => (with_reducible repeat (first | refine Kd.C_alloc ?_ _ | refine Kd.C_drewN ?_ _ | refine Kd.C_drew ?_)); exact (Kd.V_reads' P2.out).2.2); rintro e wr ⟨v1, v2, rfl, h1, h2, hb⟩; dsimp only; have G3 := Aside0.mk (gb_lt hb (fun h => blk_lt (F3.out _ h)) (by repeat (with_reducible first | exact HW.out | apply below_alloc | apply pw_below_drewN | apply below_drew1))); have Z3 := Aside0.mk (gb_le hb (below_step HB4.out (by repeat (with_reducible first | exact HW.out | apply below_alloc | apply pw_below_drewN | apply below_drew1)))); have hw_ := below_step (by repeat (with_reducible first | exact HW.out | apply below_alloc | apply pw_below_drewN | apply below_drew1)) hb; clear HW h10 h11 h12 h20 h21 h22 h30 h31 h32 f30 f31 f32; have HW := Aside0.mk hw_; clear hw_; obtain ⟨h10, h11, h12⟩ := cells3 (F1.out _ HW.out); obtain ⟨h20, h21, h22⟩ := cells3 (F2.out _ HW.out); obtain ⟨h30, h31, h32⟩ := cells3 (F3.out _ HW.out); obtain ⟨f30, f31, f32⟩ := froz3 (F3.out _ HW.out); have R1 := Aside0.mk h1; have R2 := Aside0.mk h2; obtain ⟨Q1, q01, e1⟩ := Kd.R_slice R1.out; subst e1; obtain ⟨Q2, q02, e2⟩ := Kd.R_slice R2.out; subst e2; clear h1 h2 hb))
  all_goals go_wp2
  all_goals refine bodyPost_ret (results_ct rfl _ _ g3 41 #[.bool r1, .slice Q1 r2.length q01, .slice Q2 r3.length q02] (0, 0) _ rfl (put3 (F3.out _ HW.out) _ _ _) Tryz.underlying41 rfl (by kernel_rfl)) rfl ?_
  all_goals exact ⟨_, _, rfl, Kd.R_lower (rset3 R1.out G3.out _ _ _) Z3.out, Kd.R_lower (rset3 R2.out G3.out _ _ _) Z3.out, lset3 (below_step HB4.out HW.out) L3.out _ _ _⟩
set_option maxRecDepth 100000 in
set_option maxHeartbeats 8000000 in
theorem div_no (k : Nat) (x : Bool) (A1 : Option Addr) (c1 : Nat) (l1 : List Int) (A2 : Option Addr) (c2 : Nat) (l2 : List Int) (y : Bool) (B1 : Option Addr) (d1 : Nat) (m1 : List Int) (B2 : Option Addr) (d2 : Nat) (m2 : List Int) (t : Int) (w : World) (V1 : Aside0 (Row w A1 c1 l1)) (V2 : Aside0 (Row w A2 c2 l2)) (V3 : Aside0 (Row w B1 d1 m1)) (V4 : Aside0 (Row w B2 d2 m2)) (h0 : rat_both.f k x l1 l2 y m1 m2 = some t) (ht : t ≠ 0) : Calls Tryz.prog 141 #[.agg #[.bool x, .slice A1 l1.length c1, .slice A2 l2.length c2], .agg #[.bool y, .slice B1 m1.length d1, .slice B2 m2.length d2]] w (RatPost w false [] [] t) := by
  have E0 := Aside0.mk h0
  have hc1 : (t != 0) = true := bne_iff_ne.2 ht
  have hc2 : (t == 0) = false := beq_eq_false_iff_ne.2 ht
  clear h0 ht
  have HB0 := Aside0.mk (Below.refl w.heap.size w)
  go_enter Tryz.func141, Tryz.ntmps141
  go_wp2_with (first
    | ((with_reducible refine gate_dst (N := 2) rfl ?_); refine box_event ?hg (N := 2) ?hd (cs := #[.bool x, .slice A1 l1.length c1, .slice A2 l2.length c2]) (t := 41) ?hr ?_; (case hd => rfl); (case hg => rfl); (case hr => first | (go_simp; done) | (go_simp; rfl)); intro g1 hg1 w1 hbox hb; have K1 := Aside0.mk hbox; have L1 := Aside0.mk (show w.heap.size ≤ g1 by rw [hg1]; exact below_size HB0.out); have HB := Aside0.mk (below_step HB0.out hb); clear hg1 hbox hb)
    | ((with_reducible refine gate_dst (N := 3) rfl ?_); refine box_event ?hg (N := 3) ?hd (cs := #[.bool y, .slice B1 m1.length d1, .slice B2 m2.length d2]) (t := 41) ?hr ?_; (case hd => rfl); (case hg => rfl); (case hr => first | (go_simp; done) | (go_simp; rfl)); intro g2 hg2 w2 hbox hb; have K1 := Aside0.mk (blk_below K1.out hb); have K2 := Aside0.mk hbox; have L2 := Aside0.mk (show w.heap.size ≤ g2 by rw [hg2]; exact below_size HB.out); have HB := Aside0.mk (below_step HB.out hb); clear hg2 hbox hb)
    | ((with_reducible refine gate_dst (N := 4) rfl ?_); refine box_event ?hg (N := 4) ?hd (cs := #[.bool false, .slice none 0 0, .slice none 0 0]) (t := 41) ?hr ?_; (case hd => rfl); (case hg => rfl); (case hr => first | (go_simp; done) | (go_simp; rfl)); intro g3 hg3 w3 hbox hb; have N1 := Aside0.mk (show g1 ≠ g3 by rw [hg3]; exact Nat.ne_of_lt (blk_lt K1.out)); have N2 := Aside0.mk (show g2 ≠ g3 by rw [hg3]; exact Nat.ne_of_lt (blk_lt K2.out)); have K1 := Aside0.mk (blk_below K1.out hb); have K2 := Aside0.mk (blk_below K2.out hb); have K3 := Aside0.mk hbox; have L3 := Aside0.mk (show w.heap.size ≤ g3 by rw [hg3]; exact below_size HB.out); have HB := Aside0.mk (below_step HB.out hb); clear hg3 hbox hb; obtain ⟨h10, h11, h12⟩ := cells3 K1.out; obtain ⟨h20, h21, h22⟩ := cells3 K2.out)
    | (go_at_call 143; (with_reducible refine (rat_both.calls k x A1 c1 l1 A2 c2 l2 y B1 d1 m1 B2 d2 m2 t _ (Kd.V_reads' (V1.out.to HB.out)).2.2 (Kd.V_reads' (V1.out.to HB.out)).2.1 (Kd.V_reads' (V2.out.to HB.out)).2.2 (Kd.V_reads' (V2.out.to HB.out)).2.1 (Kd.V_reads' (V3.out.to HB.out)).2.2 (Kd.V_reads' (V3.out.to HB.out)).2.1 (Kd.V_reads' (V4.out.to HB.out)).2.2 (Kd.V_reads' (V4.out.to HB.out)).2.1 E0.out).mono ?_); rintro e w4 ⟨rfl, hb⟩; have F1 := Aside0.mk (fun W (hW : Below w4.heap.size w4 W) => blk_below (blk_below K1.out hb) hW); have F2 := Aside0.mk (fun W (hW : Below w4.heap.size w4 W) => blk_below (blk_below K2.out hb) hW); have F3 := Aside0.mk (fun W (hW : Below w4.heap.size w4 W) => blk_below (blk_below K3.out hb) hW); have HB4 := Aside0.mk (below_step HB.out hb); have HW := Aside0.mk (Below.refl w4.heap.size w4); clear hb h10 h11 h12 h20 h21 h22 K1 K2 K3 HB; obtain ⟨h10, h11, h12⟩ := cells3 (F1.out _ HW.out); obtain ⟨h20, h21, h22⟩ := cells3 (F2.out _ HW.out); obtain ⟨h30, h31, h32⟩ := cells3 (F3.out _ HW.out); obtain ⟨f30, f31, f32⟩ := froz3 (F3.out _ HW.out)))
  refine bodyPost_ret (results_ct rfl _ _ g3 41 #[.bool false, .slice none 0 0, .slice none 0 0] (0, 0) _ rfl (put3 (F3.out _ HW.out) (.bool false) (.slice none 0 0) (.slice none 0 0)) Tryz.underlying41 rfl (by kernel_rfl)) rfl ?_
  exact ⟨_, _, rfl, Kd.R_nil _ _ _ _ _, Kd.R_nil _ _ _ _ _, lset3 (below_step HB4.out HW.out) L3.out _ _ _⟩
set_option maxRecDepth 100000 in
set_option maxHeartbeats 8000000 in
theorem div_zero (k : Nat) (x : Bool) (A1 : Option Addr) (c1 : Nat) (l1 : List Int) (A2 : Option Addr) (c2 : Nat) (l2 : List Int) (y : Bool) (B1 : Option Addr) (d1 : Nat) (m1 : List Int) (B2 : Option Addr) (d2 : Nat) (m2 : List Int) (w : World) (V1 : Aside0 (Row w A1 c1 l1)) (V2 : Aside0 (Row w A2 c2 l2)) (V3 : Aside0 (Row w B1 d1 m1)) (V4 : Aside0 (Row w B2 d2 m2)) (h0 : rat_both.f k x l1 l2 y m1 m2 = some 0) (hz : (m1.length : Int) = 0) : Calls Tryz.prog 141 #[.agg #[.bool x, .slice A1 l1.length c1, .slice A2 l2.length c2], .agg #[.bool y, .slice B1 m1.length d1, .slice B2 m2.length d2]] w (RatPost w false [] [] 21) := by
  have E0 := Aside0.mk h0
  have hz1 : ((m1.length : Int) == 0) = true := beq_iff_eq.2 hz
  have hz2 : decide ((m1.length : Int) = 0) = true := decide_eq_true hz
  clear h0 hz
  have HB0 := Aside0.mk (Below.refl w.heap.size w)
  go_enter Tryz.func141, Tryz.ntmps141
  go_wp2_with (first
    | ((with_reducible refine gate_dst (N := 2) rfl ?_); refine box_event ?hg (N := 2) ?hd (cs := #[.bool x, .slice A1 l1.length c1, .slice A2 l2.length c2]) (t := 41) ?hr ?_; (case hd => rfl); (case hg => rfl); (case hr => first | (go_simp; done) | (go_simp; rfl)); intro g1 hg1 w1 hbox hb; have K1 := Aside0.mk hbox; have L1 := Aside0.mk (show w.heap.size ≤ g1 by rw [hg1]; exact below_size HB0.out); have HB := Aside0.mk (below_step HB0.out hb); clear hg1 hbox hb)
    | ((with_reducible refine gate_dst (N := 3) rfl ?_); refine box_event ?hg (N := 3) ?hd (cs := #[.bool y, .slice B1 m1.length d1, .slice B2 m2.length d2]) (t := 41) ?hr ?_; (case hd => rfl); (case hg => rfl); (case hr => first | (go_simp; done) | (go_simp; rfl)); intro g2 hg2 w2 hbox hb; have K1 := Aside0.mk (blk_below K1.out hb); have K2 := Aside0.mk hbox; have L2 := Aside0.mk (show w.heap.size ≤ g2 by rw [hg2]; exact below_size HB.out); have HB := Aside0.mk (below_step HB.out hb); clear hg2 hbox hb)
    | ((with_reducible refine gate_dst (N := 4) rfl ?_); refine box_event ?hg (N := 4) ?hd (cs := #[.bool false, .slice none 0 0, .slice none 0 0]) (t := 41) ?hr ?_; (case hd => rfl); (case hg => rfl); (case hr => first | (go_simp; done) | (go_simp; rfl)); intro g3 hg3 w3 hbox hb; have N1 := Aside0.mk (show g1 ≠ g3 by rw [hg3]; exact Nat.ne_of_lt (blk_lt K1.out)); have N2 := Aside0.mk (show g2 ≠ g3 by rw [hg3]; exact Nat.ne_of_lt (blk_lt K2.out)); have K1 := Aside0.mk (blk_below K1.out hb); have K2 := Aside0.mk (blk_below K2.out hb); have K3 := Aside0.mk hbox; have L3 := Aside0.mk (show w.heap.size ≤ g3 by rw [hg3]; exact below_size HB.out); have HB := Aside0.mk (below_step HB.out hb); clear hg3 hbox hb; obtain ⟨h10, h11, h12⟩ := cells3 K1.out; obtain ⟨h20, h21, h22⟩ := cells3 K2.out)
    | (go_at_call 143; (with_reducible refine (rat_both.calls k x A1 c1 l1 A2 c2 l2 y B1 d1 m1 B2 d2 m2 0 _ (Kd.V_reads' (V1.out.to HB.out)).2.2 (Kd.V_reads' (V1.out.to HB.out)).2.1 (Kd.V_reads' (V2.out.to HB.out)).2.2 (Kd.V_reads' (V2.out.to HB.out)).2.1 (Kd.V_reads' (V3.out.to HB.out)).2.2 (Kd.V_reads' (V3.out.to HB.out)).2.1 (Kd.V_reads' (V4.out.to HB.out)).2.2 (Kd.V_reads' (V4.out.to HB.out)).2.1 E0.out).mono ?_); rintro e w4 ⟨rfl, hb⟩; have F1 := Aside0.mk (fun W (hW : Below w4.heap.size w4 W) => blk_below (blk_below K1.out hb) hW); have F2 := Aside0.mk (fun W (hW : Below w4.heap.size w4 W) => blk_below (blk_below K2.out hb) hW); have F3 := Aside0.mk (fun W (hW : Below w4.heap.size w4 W) => blk_below (blk_below K3.out hb) hW); have HB4 := Aside0.mk (below_step HB.out hb); have HW := Aside0.mk (Below.refl w4.heap.size w4); clear hb h10 h11 h12 h20 h21 h22 K1 K2 K3 HB; obtain ⟨h10, h11, h12⟩ := cells3 (F1.out _ HW.out); obtain ⟨h20, h21, h22⟩ := cells3 (F2.out _ HW.out); obtain ⟨h30, h31, h32⟩ := cells3 (F3.out _ HW.out); obtain ⟨f30, f31, f32⟩ := froz3 (F3.out _ HW.out)))
  refine bodyPost_ret (results_ct rfl _ _ g3 41 #[.bool false, .slice none 0 0, .slice none 0 0] (0, 0) _ rfl (put3 (F3.out _ HW.out) (.bool false) (.slice none 0 0) (.slice none 0 0)) Tryz.underlying41 rfl (by kernel_rfl)) rfl ?_
  exact ⟨_, _, rfl, Kd.R_nil _ _ _ _ _, Kd.R_nil _ _ _ _ _, lset3 (below_step HB4.out HW.out) L3.out _ _ _⟩
set_option maxRecDepth 100000 in
set_option maxHeartbeats 8000000 in
theorem div_yes (k : Nat) (x : Bool) (A1 : Option Addr) (c1 : Nat) (l1 : List Int) (A2 : Option Addr) (c2 : Nat) (l2 : List Int) (y : Bool) (B1 : Option Addr) (d1 : Nat) (m1 : List Int) (B2 : Option Addr) (d2 : Nat) (m2 : List Int) (t1 t2 : List Int) (r1 : Bool) (r2 r3 : List Int) (r4 : Int) (w : World) (V1 : Aside0 (Row w A1 c1 l1)) (V2 : Aside0 (Row w A2 c2 l2)) (V3 : Aside0 (Row w B1 d1 m1)) (V4 : Aside0 (Row w B2 d2 m2)) (h0 : rat_both.f k x l1 l2 y m1 m2 = some 0) (hz : ¬ (m1.length : Int) = 0) (h1 : rat_product.f k [l1, m2] = some t1) (h2 : rat_product.f k [l2, m1] = some t2) (h3 : rat_reduced.f k (x != y) t1 t2 = some (r1, r2, r3, r4)) : Calls Tryz.prog 141 #[.agg #[.bool x, .slice A1 l1.length c1, .slice A2 l2.length c2], .agg #[.bool y, .slice B1 m1.length d1, .slice B2 m2.length d2]] w (RatPost w r1 r2 r3 r4) := by
  have E0 := Aside0.mk h0
  have hz1 : ((m1.length : Int) == 0) = false := beq_eq_false_iff_ne.2 hz
  have hz2 : decide ((m1.length : Int) = 0) = false := decide_eq_false hz
  have E1 := Aside0.mk h1
  have E2 := Aside0.mk h2
  have ER := Aside0.mk (show rat_reduced.f k (!(x == y)) t1 t2 = some (r1, r2, r3, r4) from h3)
  clear h0 h1 h2 h3 hz
  have HB0 := Aside0.mk (Below.refl w.heap.size w)
  go_enter Tryz.func141, Tryz.ntmps141
  go_wp2_with (first
    | ((with_reducible refine gate_dst (N := 2) rfl ?_); refine box_event ?hg (N := 2) ?hd (cs := #[.bool x, .slice A1 l1.length c1, .slice A2 l2.length c2]) (t := 41) ?hr ?_; (case hd => rfl); (case hg => rfl); (case hr => first | (go_simp; done) | (go_simp; rfl)); intro g1 hg1 w1 hbox hb; have K1 := Aside0.mk hbox; have L1 := Aside0.mk (show w.heap.size ≤ g1 by rw [hg1]; exact below_size HB0.out); have HB := Aside0.mk (below_step HB0.out hb); clear hg1 hbox hb)
    | ((with_reducible refine gate_dst (N := 3) rfl ?_); refine box_event ?hg (N := 3) ?hd (cs := #[.bool y, .slice B1 m1.length d1, .slice B2 m2.length d2]) (t := 41) ?hr ?_; (case hd => rfl); (case hg => rfl); (case hr => first | (go_simp; done) | (go_simp; rfl)); intro g2 hg2 w2 hbox hb; have K1 := Aside0.mk (blk_below K1.out hb); have K2 := Aside0.mk hbox; have L2 := Aside0.mk (show w.heap.size ≤ g2 by rw [hg2]; exact below_size HB.out); have HB := Aside0.mk (below_step HB.out hb); clear hg2 hbox hb)
    | ((with_reducible refine gate_dst (N := 4) rfl ?_); refine box_event ?hg (N := 4) ?hd (cs := #[.bool false, .slice none 0 0, .slice none 0 0]) (t := 41) ?hr ?_; (case hd => rfl); (case hg => rfl); (case hr => first | (go_simp; done) | (go_simp; rfl)); intro g3 hg3 w3 hbox hb; have N1 := Aside0.mk (show g1 ≠ g3 by rw [hg3]; exact Nat.ne_of_lt (blk_lt K1.out)); have N2 := Aside0.mk (show g2 ≠ g3 by rw [hg3]; exact Nat.ne_of_lt (blk_lt K2.out)); have K1 := Aside0.mk (blk_below K1.out hb); have K2 := Aside0.mk (blk_below K2.out hb); have K3 := Aside0.mk hbox; have L3 := Aside0.mk (show w.heap.size ≤ g3 by rw [hg3]; exact below_size HB.out); have HB := Aside0.mk (below_step HB.out hb); clear hg3 hbox hb; obtain ⟨h10, h11, h12⟩ := cells3 K1.out; obtain ⟨h20, h21, h22⟩ := cells3 K2.out)
    | (go_at_call 143; (with_reducible refine (rat_both.calls k x A1 c1 l1 A2 c2 l2 y B1 d1 m1 B2 d2 m2 0 _ (Kd.V_reads' (V1.out.to HB.out)).2.2 (Kd.V_reads' (V1.out.to HB.out)).2.1 (Kd.V_reads' (V2.out.to HB.out)).2.2 (Kd.V_reads' (V2.out.to HB.out)).2.1 (Kd.V_reads' (V3.out.to HB.out)).2.2 (Kd.V_reads' (V3.out.to HB.out)).2.1 (Kd.V_reads' (V4.out.to HB.out)).2.2 (Kd.V_reads' (V4.out.to HB.out)).2.1 E0.out).mono ?_); rintro e w4 ⟨rfl, hb⟩; have F1 := Aside0.mk (fun W (hW : Below w4.heap.size w4 W) => blk_below (blk_below K1.out hb) hW); have F2 := Aside0.mk (fun W (hW : Below w4.heap.size w4 W) => blk_below (blk_below K2.out hb) hW); have F3 := Aside0.mk (fun W (hW : Below w4.heap.size w4 W) => blk_below (blk_below K3.out hb) hW); have HB4 := Aside0.mk (below_step HB.out hb); have HW := Aside0.mk (Below.refl w4.heap.size w4); clear hb h10 h11 h12 h20 h21 h22 K1 K2 K3 HB; obtain ⟨h10, h11, h12⟩ := cells3 (F1.out _ HW.out); obtain ⟨h20, h21, h22⟩ := cells3 (F2.out _ HW.out); obtain ⟨h30, h31, h32⟩ := cells3 (F3.out _ HW.out); obtain ⟨f30, f31, f32⟩ := froz3 (F3.out _ HW.out)))
  go_region_held3 (fun w' => w'.cell? ⟨g1, 0, none⟩ = some (.bool x) ∧ w'.cell? ⟨g1, 1, none⟩ = some (.slice A1 l1.length c1) ∧ w'.cell? ⟨g1, 2, none⟩ = some (.slice A2 l2.length c2) ∧ w'.cell? ⟨g2, 0, none⟩ = some (.bool y) ∧ w'.cell? ⟨g2, 1, none⟩ = some (.slice B1 m1.length d1) ∧ w'.cell? ⟨g2, 2, none⟩ = some (.slice B2 m2.length d2)) (first | (with_reducible refine six_set (F1.out _ ?_) (F2.out _ ?_) N1.out N2.out _ _ _ <;> (repeat (with_reducible first | exact HW.out | apply below_alloc | apply pw_below_drewN | apply below_drew1)); done) | (with_reducible refine six (F1.out _ ?_) (F2.out _ ?_) <;> (repeat (with_reducible first | exact HW.out | apply below_alloc | apply pw_below_drewN | apply below_drew1)); done)) (first
    | (go_simp; go_at_call 144; (fail_if_success (have hx_ := P1)); (with_reducible refine (product2 k t1 _ (ty := 39) E1.out (V1.out.to (below_step HB4.out (by repeat (with_reducible first | exact HW.out | apply below_alloc | apply pw_below_drewN | apply below_drew1)))) (V4.out.to (below_step HB4.out (by repeat (with_reducible first | exact HW.out | apply below_alloc | apply pw_below_drewN | apply below_drew1)))) ?blk).mono ?_); (case blk => repeat (with_reducible first | exact blk_new _ _ | (refine blk_new2 _ _ ?_; simp; done) | refine blk_drew ?_ | refine blk_drewN ?_ _ | refine blk_alloc ?_ _ | refine HS.out _ _ ?_)); rintro e wp1 ⟨vp1, rfl, ho, hb⟩; dsimp only; (try clear HS); have HS := Aside0.mk (fun g o hg => blk_below (g := g) (o := o) hg hb); have hw_ := below_step (by repeat (with_reducible first | exact HW.out | apply below_alloc | apply pw_below_drewN | apply below_drew1)) hb; (try have P1_ := Aside0.mk (Kd.V_below (by (with_reducible repeat (first | apply Kd.V_alloc | apply Kd.V_drewN | apply Kd.V_drew)); exact P1.out) hb)); (try clear P1); (try have P1 := P1_); (try clear P1_); (try have P2_ := Aside0.mk (Kd.V_below (by (with_reducible repeat (first | apply Kd.V_alloc | apply Kd.V_drewN | apply Kd.V_drew)); exact P2.out) hb)); (try clear P2); (try have P2 := P2_); (try clear P2_); clear HW h10 h11 h12 h20 h21 h22 h30 h31 h32 f30 f31 f32; have HW := Aside0.mk hw_; clear hw_; obtain ⟨h10, h11, h12⟩ := cells3 (F1.out _ HW.out); obtain ⟨h20, h21, h22⟩ := cells3 (F2.out _ HW.out); obtain ⟨h30, h31, h32⟩ := cells3 (F3.out _ HW.out); obtain ⟨f30, f31, f32⟩ := froz3 (F3.out _ HW.out); have P1 := Aside0.mk ho; obtain ⟨J1, j1, e1⟩ := Kd.V_slice P1.out; subst e1; clear ho hb)
    | (go_simp; go_at_call 144; (with_reducible refine (product2 k t2 _ (ty := 39) E2.out (V2.out.to (below_step HB4.out (by repeat (with_reducible first | exact HW.out | apply below_alloc | apply pw_below_drewN | apply below_drew1)))) (V3.out.to (below_step HB4.out (by repeat (with_reducible first | exact HW.out | apply below_alloc | apply pw_below_drewN | apply below_drew1)))) ?blk).mono ?_); (case blk => repeat (with_reducible first | exact blk_new _ _ | (refine blk_new2 _ _ ?_; simp; done) | refine blk_drew ?_ | refine blk_drewN ?_ _ | refine blk_alloc ?_ _ | refine HS.out _ _ ?_)); rintro e wp2 ⟨vp2, rfl, ho, hb⟩; dsimp only; (try clear HS); have HS := Aside0.mk (fun g o hg => blk_below (g := g) (o := o) hg hb); have hw_ := below_step (by repeat (with_reducible first | exact HW.out | apply below_alloc | apply pw_below_drewN | apply below_drew1)) hb; (try have P1_ := Aside0.mk (Kd.V_below (by (with_reducible repeat (first | apply Kd.V_alloc | apply Kd.V_drewN | apply Kd.V_drew)); exact P1.out) hb)); (try clear P1); (try have P1 := P1_); (try clear P1_); (try have P2_ := Aside0.mk (Kd.V_below (by (with_reducible repeat (first | apply Kd.V_alloc | apply Kd.V_drewN | apply Kd.V_drew)); exact P2.out) hb)); (try clear P2); (try have P2 := P2_); (try clear P2_); clear HW h10 h11 h12 h20 h21 h22 h30 h31 h32 f30 f31 f32; have HW := Aside0.mk hw_; clear hw_; obtain ⟨h10, h11, h12⟩ := cells3 (F1.out _ HW.out); obtain ⟨h20, h21, h22⟩ := cells3 (F2.out _ HW.out); obtain ⟨h30, h31, h32⟩ := cells3 (F3.out _ HW.out); obtain ⟨f30, f31, f32⟩ := froz3 (F3.out _ HW.out); have P2 := Aside0.mk ho; obtain ⟨J2, j2, e2⟩ := Kd.V_slice P2.out; subst e2; clear ho hb)
    | (go_simp; go_at_call 139; (with_reducible refine (rat_reduced.calls k (!(x == y)) J1 j1 t1 J2 j2 t2 r1 r2 r3 r4 _ ?s1 (Kd.V_reads' P1.out).2.1 ?s2 (Kd.V_reads' P2.out).2.1 ER.out).mono ?_); (case s1 => (with_reducible repeat (first | refine Kd.C_alloc ?_ _ | refine Kd.C_drewN ?_ _ | refine Kd.C_drew ?_)); exact (Kd.V_reads' P1.out).2.2); (case s2 => (with_reducible repeat (first | refine Kd.C_alloc ?_ _ | refine Kd.C_drewN ?_ _ | refine Kd.C_drew ?_)); exact (Kd.V_reads' P2.out).2.2); rintro e wr ⟨v1, v2, rfl, h1, h2, hb⟩; dsimp only; have G3 := Aside0.mk (gb_lt hb (fun h => blk_lt (F3.out _ h)) (by repeat (with_reducible first | exact HW.out | apply below_alloc | apply pw_below_drewN | apply below_drew1))); have Z3 := Aside0.mk (gb_le hb (below_step HB4.out (by repeat (with_reducible first | exact HW.out | apply below_alloc | apply pw_below_drewN | apply below_drew1)))); have hw_ := below_step (by repeat (with_reducible first | exact HW.out | apply below_alloc | apply pw_below_drewN | apply below_drew1)) hb; clear HW h10 h11 h12 h20 h21 h22 h30 h31 h32 f30 f31 f32; have HW := Aside0.mk hw_; clear hw_; obtain ⟨h10, h11, h12⟩ := cells3 (F1.out _ HW.out); obtain ⟨h20, h21, h22⟩ := cells3 (F2.out _ HW.out); obtain ⟨h30, h31, h32⟩ := cells3 (F3.out _ HW.out); obtain ⟨f30, f31, f32⟩ := froz3 (F3.out _ HW.out); have R1 := Aside0.mk h1; have R2 := Aside0.mk h2; obtain ⟨Q1, q01, e1⟩ := Kd.R_slice R1.out; subst e1; obtain ⟨Q2, q02, e2⟩ := Kd.R_slice R2.out; subst e2; clear h1 h2 hb))
  all_goals go_wp2
  all_goals refine bodyPost_ret (results_ct rfl _ _ g3 41 #[.bool r1, .slice Q1 r2.length q01, .slice Q2 r3.length q02] (0, 0) _ rfl (put3 (F3.out _ HW.out) _ _ _) Tryz.underlying41 rfl (by kernel_rfl)) rfl ?_
  all_goals exact ⟨_, _, rfl, Kd.R_lower (rset3 R1.out G3.out _ _ _) Z3.out, Kd.R_lower (rset3 R2.out G3.out _ _ _) Z3.out, lset3 (below_step HB4.out HW.out) L3.out _ _ _⟩
set_option maxRecDepth 100000 in
set_option maxHeartbeats 8000000 in
theorem add_no (k : Nat) (x : Bool) (A1 : Option Addr) (c1 : Nat) (l1 : List Int) (A2 : Option Addr) (c2 : Nat) (l2 : List Int) (y : Bool) (B1 : Option Addr) (d1 : Nat) (m1 : List Int) (B2 : Option Addr) (d2 : Nat) (m2 : List Int) (t : Int) (w : World) (V1 : Aside0 (Row w A1 c1 l1)) (V2 : Aside0 (Row w A2 c2 l2)) (V3 : Aside0 (Row w B1 d1 m1)) (V4 : Aside0 (Row w B2 d2 m2)) (h0 : rat_both.f k x l1 l2 y m1 m2 = some t) (ht : t ≠ 0) : Calls Tryz.prog 142 #[.agg #[.bool x, .slice A1 l1.length c1, .slice A2 l2.length c2], .agg #[.bool y, .slice B1 m1.length d1, .slice B2 m2.length d2]] w (RatPost w false [] [] t) := by
  have E0 := Aside0.mk h0
  have hc1 : (t != 0) = true := bne_iff_ne.2 ht
  have hc2 : (t == 0) = false := beq_eq_false_iff_ne.2 ht
  clear h0 ht
  have HB0 := Aside0.mk (Below.refl w.heap.size w)
  go_enter Tryz.func142, Tryz.ntmps142
  go_wp2_with (first
    | ((with_reducible refine gate_dst (N := 2) rfl ?_); refine box_event ?hg (N := 2) ?hd (cs := #[.bool x, .slice A1 l1.length c1, .slice A2 l2.length c2]) (t := 41) ?hr ?_; (case hd => rfl); (case hg => rfl); (case hr => first | (go_simp; done) | (go_simp; rfl)); intro g1 hg1 w1 hbox hb; have K1 := Aside0.mk hbox; have L1 := Aside0.mk (show w.heap.size ≤ g1 by rw [hg1]; exact below_size HB0.out); have HB := Aside0.mk (below_step HB0.out hb); clear hg1 hbox hb)
    | ((with_reducible refine gate_dst (N := 3) rfl ?_); refine box_event ?hg (N := 3) ?hd (cs := #[.bool y, .slice B1 m1.length d1, .slice B2 m2.length d2]) (t := 41) ?hr ?_; (case hd => rfl); (case hg => rfl); (case hr => first | (go_simp; done) | (go_simp; rfl)); intro g2 hg2 w2 hbox hb; have K1 := Aside0.mk (blk_below K1.out hb); have K2 := Aside0.mk hbox; have L2 := Aside0.mk (show w.heap.size ≤ g2 by rw [hg2]; exact below_size HB.out); have HB := Aside0.mk (below_step HB.out hb); clear hg2 hbox hb)
    | ((with_reducible refine gate_dst (N := 4) rfl ?_); refine box_event ?hg (N := 4) ?hd (cs := #[.bool false, .slice none 0 0, .slice none 0 0]) (t := 41) ?hr ?_; (case hd => rfl); (case hg => rfl); (case hr => first | (go_simp; done) | (go_simp; rfl)); intro g3 hg3 w3 hbox hb; have N1 := Aside0.mk (show g1 ≠ g3 by rw [hg3]; exact Nat.ne_of_lt (blk_lt K1.out)); have N2 := Aside0.mk (show g2 ≠ g3 by rw [hg3]; exact Nat.ne_of_lt (blk_lt K2.out)); have K1 := Aside0.mk (blk_below K1.out hb); have K2 := Aside0.mk (blk_below K2.out hb); have K3 := Aside0.mk hbox; have L3 := Aside0.mk (show w.heap.size ≤ g3 by rw [hg3]; exact below_size HB.out); have HB := Aside0.mk (below_step HB.out hb); clear hg3 hbox hb; obtain ⟨h10, h11, h12⟩ := cells3 K1.out; obtain ⟨h20, h21, h22⟩ := cells3 K2.out)
    | (go_at_call 143; (with_reducible refine (rat_both.calls k x A1 c1 l1 A2 c2 l2 y B1 d1 m1 B2 d2 m2 t _ (Kd.V_reads' (V1.out.to HB.out)).2.2 (Kd.V_reads' (V1.out.to HB.out)).2.1 (Kd.V_reads' (V2.out.to HB.out)).2.2 (Kd.V_reads' (V2.out.to HB.out)).2.1 (Kd.V_reads' (V3.out.to HB.out)).2.2 (Kd.V_reads' (V3.out.to HB.out)).2.1 (Kd.V_reads' (V4.out.to HB.out)).2.2 (Kd.V_reads' (V4.out.to HB.out)).2.1 E0.out).mono ?_); rintro e w4 ⟨rfl, hb⟩; have F1 := Aside0.mk (fun W (hW : Below w4.heap.size w4 W) => blk_below (blk_below K1.out hb) hW); have F2 := Aside0.mk (fun W (hW : Below w4.heap.size w4 W) => blk_below (blk_below K2.out hb) hW); have F3 := Aside0.mk (fun W (hW : Below w4.heap.size w4 W) => blk_below (blk_below K3.out hb) hW); have HB4 := Aside0.mk (below_step HB.out hb); have HW := Aside0.mk (Below.refl w4.heap.size w4); clear hb h10 h11 h12 h20 h21 h22 K1 K2 K3 HB; obtain ⟨h10, h11, h12⟩ := cells3 (F1.out _ HW.out); obtain ⟨h20, h21, h22⟩ := cells3 (F2.out _ HW.out); obtain ⟨h30, h31, h32⟩ := cells3 (F3.out _ HW.out); obtain ⟨f30, f31, f32⟩ := froz3 (F3.out _ HW.out)))
  refine bodyPost_ret (results_ct rfl _ _ g3 41 #[.bool false, .slice none 0 0, .slice none 0 0] (0, 0) _ rfl (put3 (F3.out _ HW.out) (.bool false) (.slice none 0 0) (.slice none 0 0)) Tryz.underlying41 rfl (by kernel_rfl)) rfl ?_
  exact ⟨_, _, rfl, Kd.R_nil _ _ _ _ _, Kd.R_nil _ _ _ _ _, lset3 (below_step HB4.out HW.out) L3.out _ _ _⟩
set_option maxRecDepth 100000 in
set_option maxHeartbeats 8000000 in
theorem add_yes (k : Nat) (x : Bool) (A1 : Option Addr) (c1 : Nat) (l1 : List Int) (A2 : Option Addr) (c2 : Nat) (l2 : List Int) (y : Bool) (B1 : Option Addr) (d1 : Nat) (m1 : List Int) (B2 : Option Addr) (d2 : Nat) (m2 : List Int) (t1 t2 t3 ts : List Int) (bs : Bool) (r1 : Bool) (r2 r3 : List Int) (r4 : Int) (w : World) (V1 : Aside0 (Row w A1 c1 l1)) (V2 : Aside0 (Row w A2 c2 l2)) (V3 : Aside0 (Row w B1 d1 m1)) (V4 : Aside0 (Row w B2 d2 m2)) (h0 : rat_both.f k x l1 l2 y m1 m2 = some 0) (h1 : rat_product.f k [l1, m2] = some t1) (h2 : rat_product.f k [m1, l2] = some t2) (hs : rat_sum.f k x t1 y t2 = some (bs, ts)) (hp : rat_product.f k [l2, m2] = some t3) (h3 : rat_reduced.f k bs ts t3 = some (r1, r2, r3, r4)) : Calls Tryz.prog 142 #[.agg #[.bool x, .slice A1 l1.length c1, .slice A2 l2.length c2], .agg #[.bool y, .slice B1 m1.length d1, .slice B2 m2.length d2]] w (RatPost w r1 r2 r3 r4) := by
  have E0 := Aside0.mk h0
  have E1 := Aside0.mk h1
  have E2 := Aside0.mk h2
  have E3 := Aside0.mk hp
  have ES := Aside0.mk hs
  have ER := Aside0.mk h3
  clear h0 h1 h2 h3 hs hp
  have HB0 := Aside0.mk (Below.refl w.heap.size w)
  go_enter Tryz.func142, Tryz.ntmps142
  go_wp2_with (first
    | ((with_reducible refine gate_dst (N := 2) rfl ?_); refine box_event ?hg (N := 2) ?hd (cs := #[.bool x, .slice A1 l1.length c1, .slice A2 l2.length c2]) (t := 41) ?hr ?_; (case hd => rfl); (case hg => rfl); (case hr => first | (go_simp; done) | (go_simp; rfl)); intro g1 hg1 w1 hbox hb; have K1 := Aside0.mk hbox; have L1 := Aside0.mk (show w.heap.size ≤ g1 by rw [hg1]; exact below_size HB0.out); have HB := Aside0.mk (below_step HB0.out hb); clear hg1 hbox hb)
    | ((with_reducible refine gate_dst (N := 3) rfl ?_); refine box_event ?hg (N := 3) ?hd (cs := #[.bool y, .slice B1 m1.length d1, .slice B2 m2.length d2]) (t := 41) ?hr ?_; (case hd => rfl); (case hg => rfl); (case hr => first | (go_simp; done) | (go_simp; rfl)); intro g2 hg2 w2 hbox hb; have K1 := Aside0.mk (blk_below K1.out hb); have K2 := Aside0.mk hbox; have L2 := Aside0.mk (show w.heap.size ≤ g2 by rw [hg2]; exact below_size HB.out); have HB := Aside0.mk (below_step HB.out hb); clear hg2 hbox hb)
    | ((with_reducible refine gate_dst (N := 4) rfl ?_); refine box_event ?hg (N := 4) ?hd (cs := #[.bool false, .slice none 0 0, .slice none 0 0]) (t := 41) ?hr ?_; (case hd => rfl); (case hg => rfl); (case hr => first | (go_simp; done) | (go_simp; rfl)); intro g3 hg3 w3 hbox hb; have N1 := Aside0.mk (show g1 ≠ g3 by rw [hg3]; exact Nat.ne_of_lt (blk_lt K1.out)); have N2 := Aside0.mk (show g2 ≠ g3 by rw [hg3]; exact Nat.ne_of_lt (blk_lt K2.out)); have K1 := Aside0.mk (blk_below K1.out hb); have K2 := Aside0.mk (blk_below K2.out hb); have K3 := Aside0.mk hbox; have L3 := Aside0.mk (show w.heap.size ≤ g3 by rw [hg3]; exact below_size HB.out); have HB := Aside0.mk (below_step HB.out hb); clear hg3 hbox hb; obtain ⟨h10, h11, h12⟩ := cells3 K1.out; obtain ⟨h20, h21, h22⟩ := cells3 K2.out)
    | (go_at_call 143; (with_reducible refine (rat_both.calls k x A1 c1 l1 A2 c2 l2 y B1 d1 m1 B2 d2 m2 0 _ (Kd.V_reads' (V1.out.to HB.out)).2.2 (Kd.V_reads' (V1.out.to HB.out)).2.1 (Kd.V_reads' (V2.out.to HB.out)).2.2 (Kd.V_reads' (V2.out.to HB.out)).2.1 (Kd.V_reads' (V3.out.to HB.out)).2.2 (Kd.V_reads' (V3.out.to HB.out)).2.1 (Kd.V_reads' (V4.out.to HB.out)).2.2 (Kd.V_reads' (V4.out.to HB.out)).2.1 E0.out).mono ?_); rintro e w4 ⟨rfl, hb⟩; have F1 := Aside0.mk (fun W (hW : Below w4.heap.size w4 W) => blk_below (blk_below K1.out hb) hW); have F2 := Aside0.mk (fun W (hW : Below w4.heap.size w4 W) => blk_below (blk_below K2.out hb) hW); have F3 := Aside0.mk (fun W (hW : Below w4.heap.size w4 W) => blk_below (blk_below K3.out hb) hW); have HB4 := Aside0.mk (below_step HB.out hb); have HW := Aside0.mk (Below.refl w4.heap.size w4); clear hb h10 h11 h12 h20 h21 h22 K1 K2 K3 HB; obtain ⟨h10, h11, h12⟩ := cells3 (F1.out _ HW.out); obtain ⟨h20, h21, h22⟩ := cells3 (F2.out _ HW.out); obtain ⟨h30, h31, h32⟩ := cells3 (F3.out _ HW.out); obtain ⟨f30, f31, f32⟩ := froz3 (F3.out _ HW.out)))
  go_region_held3 (fun w' => w'.cell? ⟨g1, 0, none⟩ = some (.bool x) ∧ w'.cell? ⟨g1, 1, none⟩ = some (.slice A1 l1.length c1) ∧ w'.cell? ⟨g1, 2, none⟩ = some (.slice A2 l2.length c2) ∧ w'.cell? ⟨g2, 0, none⟩ = some (.bool y) ∧ w'.cell? ⟨g2, 1, none⟩ = some (.slice B1 m1.length d1) ∧ w'.cell? ⟨g2, 2, none⟩ = some (.slice B2 m2.length d2)) (first | (with_reducible refine six_set (F1.out _ ?_) (F2.out _ ?_) N1.out N2.out _ _ _ <;> (repeat (with_reducible first | exact HW.out | apply below_alloc | apply pw_below_drewN | apply below_drew1)); done) | (with_reducible refine six (F1.out _ ?_) (F2.out _ ?_) <;> (repeat (with_reducible first | exact HW.out | apply below_alloc | apply pw_below_drewN | apply below_drew1)); done)) (first
    | (go_simp; go_at_call 144; (fail_if_success (have hx_ := P1)); (with_reducible refine (product2 k t1 _ (ty := 39) E1.out (V1.out.to (below_step HB4.out (by repeat (with_reducible first | exact HW.out | apply below_alloc | apply pw_below_drewN | apply below_drew1)))) (V4.out.to (below_step HB4.out (by repeat (with_reducible first | exact HW.out | apply below_alloc | apply pw_below_drewN | apply below_drew1)))) ?blk).mono ?_); (case blk => repeat (with_reducible first | exact blk_new _ _ | (refine blk_new2 _ _ ?_; simp; done) | refine blk_drew ?_ | refine blk_drewN ?_ _ | refine blk_alloc ?_ _ | refine HS.out _ _ ?_)); rintro e wp1 ⟨vp1, rfl, ho, hb⟩; dsimp only; (try clear HS); have HS := Aside0.mk (fun g o hg => blk_below (g := g) (o := o) hg hb); have hw_ := below_step (by repeat (with_reducible first | exact HW.out | apply below_alloc | apply pw_below_drewN | apply below_drew1)) hb; (try have P1_ := Aside0.mk (Kd.V_below (by (with_reducible repeat (first | apply Kd.V_alloc | apply Kd.V_drewN | apply Kd.V_drew)); exact P1.out) hb)); (try clear P1); (try have P1 := P1_); (try clear P1_); (try have P2_ := Aside0.mk (Kd.V_below (by (with_reducible repeat (first | apply Kd.V_alloc | apply Kd.V_drewN | apply Kd.V_drew)); exact P2.out) hb)); (try clear P2); (try have P2 := P2_); (try clear P2_); clear HW h10 h11 h12 h20 h21 h22 h30 h31 h32 f30 f31 f32; have HW := Aside0.mk hw_; clear hw_; obtain ⟨h10, h11, h12⟩ := cells3 (F1.out _ HW.out); obtain ⟨h20, h21, h22⟩ := cells3 (F2.out _ HW.out); obtain ⟨h30, h31, h32⟩ := cells3 (F3.out _ HW.out); obtain ⟨f30, f31, f32⟩ := froz3 (F3.out _ HW.out); have P1 := Aside0.mk ho; obtain ⟨J1, j1, e1⟩ := Kd.V_slice P1.out; subst e1; clear ho hb)
    | (go_simp; go_at_call 144; (with_reducible refine (product2 k t2 _ (ty := 39) E2.out (V3.out.to (below_step HB4.out (by repeat (with_reducible first | exact HW.out | apply below_alloc | apply pw_below_drewN | apply below_drew1)))) (V2.out.to (below_step HB4.out (by repeat (with_reducible first | exact HW.out | apply below_alloc | apply pw_below_drewN | apply below_drew1)))) ?blk).mono ?_); (case blk => repeat (with_reducible first | exact blk_new _ _ | (refine blk_new2 _ _ ?_; simp; done) | refine blk_drew ?_ | refine blk_drewN ?_ _ | refine blk_alloc ?_ _ | refine HS.out _ _ ?_)); rintro e wp2 ⟨vp2, rfl, ho, hb⟩; dsimp only; (try clear HS); have HS := Aside0.mk (fun g o hg => blk_below (g := g) (o := o) hg hb); have hw_ := below_step (by repeat (with_reducible first | exact HW.out | apply below_alloc | apply pw_below_drewN | apply below_drew1)) hb; (try have P1_ := Aside0.mk (Kd.V_below (by (with_reducible repeat (first | apply Kd.V_alloc | apply Kd.V_drewN | apply Kd.V_drew)); exact P1.out) hb)); (try clear P1); (try have P1 := P1_); (try clear P1_); (try have P2_ := Aside0.mk (Kd.V_below (by (with_reducible repeat (first | apply Kd.V_alloc | apply Kd.V_drewN | apply Kd.V_drew)); exact P2.out) hb)); (try clear P2); (try have P2 := P2_); (try clear P2_); clear HW h10 h11 h12 h20 h21 h22 h30 h31 h32 f30 f31 f32; have HW := Aside0.mk hw_; clear hw_; obtain ⟨h10, h11, h12⟩ := cells3 (F1.out _ HW.out); obtain ⟨h20, h21, h22⟩ := cells3 (F2.out _ HW.out); obtain ⟨h30, h31, h32⟩ := cells3 (F3.out _ HW.out); obtain ⟨f30, f31, f32⟩ := froz3 (F3.out _ HW.out); have P2 := Aside0.mk ho; obtain ⟨J2, j2, e2⟩ := Kd.V_slice P2.out; subst e2; clear ho hb)
    | (go_simp; go_at_call 169; (with_reducible refine (rat_sum.calls k x J1 j1 t1 y J2 j2 t2 bs ts _ ?s1 (Kd.V_reads' P1.out).2.1 ?s2 (Kd.V_reads' P2.out).2.1 ES.out).mono ?_); (case s1 => (with_reducible repeat (first | refine Kd.C_alloc ?_ _ | refine Kd.C_drewN ?_ _ | refine Kd.C_drew ?_)); exact (Kd.V_reads' P1.out).2.2); (case s2 => (with_reducible repeat (first | refine Kd.C_alloc ?_ _ | refine Kd.C_drewN ?_ _ | refine Kd.C_drew ?_)); exact (Kd.V_reads' P2.out).2.2); rintro e ws ⟨vs, rfl, ho, hb⟩; dsimp only; have hw_ := below_step (by repeat (with_reducible first | exact HW.out | apply below_alloc | apply pw_below_drewN | apply below_drew1)) hb; clear HW h10 h11 h12 h20 h21 h22 h30 h31 h32 f30 f31 f32; have HW := Aside0.mk hw_; clear hw_; obtain ⟨h10, h11, h12⟩ := cells3 (F1.out _ HW.out); obtain ⟨h20, h21, h22⟩ := cells3 (F2.out _ HW.out); obtain ⟨h30, h31, h32⟩ := cells3 (F3.out _ HW.out); obtain ⟨f30, f31, f32⟩ := froz3 (F3.out _ HW.out); have PS := Aside0.mk ho; obtain ⟨J0, j0, e0⟩ := Kd.V_slice PS.out; subst e0; clear ho hb))
  all_goals go_wp2_with (first
    | (go_at_call 144; (with_reducible refine (product2 k t3 _ (ty := 39) E3.out (V2.out.to (below_step HB4.out (by repeat (with_reducible first | exact HW.out | apply below_alloc | apply pw_below_drewN | apply below_drew1)))) (V4.out.to (below_step HB4.out (by repeat (with_reducible first | exact HW.out | apply below_alloc | apply pw_below_drewN | apply below_drew1)))) ?blk).mono ?_); (case blk => repeat (with_reducible first | exact blk_new _ _ | (refine blk_new2 _ _ ?_; simp; done) | refine blk_drew ?_ | refine blk_drewN ?_ _ | refine blk_alloc ?_ _ | refine HS.out _ _ ?_)); rintro e wp3 ⟨vp3, rfl, ho, hb⟩; (try dsimp only); (try clear HS); have HS := Aside0.mk (fun g o hg => blk_below (g := g) (o := o) hg hb); have hw_ := below_step (by repeat (with_reducible first | exact HW.out | apply below_alloc | apply pw_below_drewN | apply below_drew1)) hb; (try have PS_ := Aside0.mk (Kd.V_below (by (with_reducible repeat (first | apply Kd.V_alloc | apply Kd.V_drewN | apply Kd.V_drew)); exact PS.out) hb)); (try clear PS); (try have PS := PS_); (try clear PS_); clear HW h10 h11 h12 h20 h21 h22 h30 h31 h32 f30 f31 f32; have HW := Aside0.mk hw_; clear hw_; obtain ⟨h10, h11, h12⟩ := cells3 (F1.out _ HW.out); obtain ⟨h20, h21, h22⟩ := cells3 (F2.out _ HW.out); obtain ⟨h30, h31, h32⟩ := cells3 (F3.out _ HW.out); obtain ⟨f30, f31, f32⟩ := froz3 (F3.out _ HW.out); have P3 := Aside0.mk ho; obtain ⟨J3, j3, e3⟩ := Kd.V_slice P3.out; subst e3; clear ho hb)
    | (go_at_call 139; (with_reducible refine (rat_reduced.calls k bs J0 j0 ts J3 j3 t3 r1 r2 r3 r4 _ ?s1 (Kd.V_reads' PS.out).2.1 ?s2 (Kd.V_reads' P3.out).2.1 ER.out).mono ?_); (case s1 => (with_reducible repeat (first | refine Kd.C_alloc ?_ _ | refine Kd.C_drewN ?_ _ | refine Kd.C_drew ?_)); exact (Kd.V_reads' PS.out).2.2); (case s2 => (with_reducible repeat (first | refine Kd.C_alloc ?_ _ | refine Kd.C_drewN ?_ _ | refine Kd.C_drew ?_)); exact (Kd.V_reads' P3.out).2.2); rintro e wr ⟨v1, v2, rfl, h1, h2, hb⟩; (try dsimp only); have G3 := Aside0.mk (gb_lt hb (fun h => blk_lt (F3.out _ h)) (by repeat (with_reducible first | exact HW.out | apply below_alloc | apply pw_below_drewN | apply below_drew1))); have Z3 := Aside0.mk (gb_le hb (below_step HB4.out (by repeat (with_reducible first | exact HW.out | apply below_alloc | apply pw_below_drewN | apply below_drew1)))); have hw_ := below_step (by repeat (with_reducible first | exact HW.out | apply below_alloc | apply pw_below_drewN | apply below_drew1)) hb; clear HW h10 h11 h12 h20 h21 h22 h30 h31 h32 f30 f31 f32; have HW := Aside0.mk hw_; clear hw_; obtain ⟨h10, h11, h12⟩ := cells3 (F1.out _ HW.out); obtain ⟨h20, h21, h22⟩ := cells3 (F2.out _ HW.out); obtain ⟨h30, h31, h32⟩ := cells3 (F3.out _ HW.out); obtain ⟨f30, f31, f32⟩ := froz3 (F3.out _ HW.out); have R1 := Aside0.mk h1; have R2 := Aside0.mk h2; obtain ⟨Q1, q01, e1⟩ := Kd.R_slice R1.out; subst e1; obtain ⟨Q2, q02, e2⟩ := Kd.R_slice R2.out; subst e2; clear h1 h2 hb))
  all_goals refine bodyPost_ret (results_ct rfl _ _ g3 41 #[.bool r1, .slice Q1 r2.length q01, .slice Q2 r3.length q02] (0, 0) _ rfl (put3 (F3.out _ HW.out) _ _ _) Tryz.underlying41 rfl (by kernel_rfl)) rfl ?_
  all_goals exact ⟨_, _, rfl, Kd.R_lower (rset3 R1.out G3.out _ _ _) Z3.out, Kd.R_lower (rset3 R2.out G3.out _ _ _) Z3.out, lset3 (below_step HB4.out HW.out) L3.out _ _ _⟩
theorem rat_Mul.calls (k : Nat) (x : Bool) (P0_1_ : Nat → Prop) (A1 : Option Addr) (c1 : Nat) (l1 : List Int) (P0_2_ : Nat → Prop) (A2 : Option Addr) (c2 : Nat) (l2 : List Int) (y : Bool) (P1_1_ : Nat → Prop) (B1 : Option Addr) (d1 : Nat) (m1 : List Int) (P1_2_ : Nat → Prop) (B2 : Option Addr) (d2 : Nat) (m2 : List Int) (r1 : Bool) (r2 r3 : List Int) (r4 : Int) (w : World) (v1 : Kd.V (Kd.int .u32) 109 w w.heap.size (fun k_ => P0_1_ k_) (.slice A1 l1.length c1) l1) (v2 : Kd.V (Kd.int .u32) 109 w w.heap.size (fun k_ => P0_2_ k_) (.slice A2 l2.length c2) l2) (v3 : Kd.V (Kd.int .u32) 109 w w.heap.size (fun k_ => P1_1_ k_) (.slice B1 m1.length d1) m1) (v4 : Kd.V (Kd.int .u32) 109 w w.heap.size (fun k_ => P1_2_ k_) (.slice B2 m2.length d2) m2) (h : rat_Mul.f k x l1 l2 y m1 m2 = some (r1, r2, r3, r4)) : Calls Tryz.prog 102 #[.agg #[.bool x, .slice A1 l1.length c1, .slice A2 l2.length c2], .agg #[.bool y, .slice B1 m1.length d1, .slice B2 m2.length d2]] w (RatPost w r1 r2 r3 r4) := by
  unfold rat_Mul.f at h
  obtain ⟨t, h0, h⟩ := Option.bind_eq_some_iff.1 h
  by_cases ht : t = 0
  · subst ht
    rw [if_pos rfl] at h
    obtain ⟨t1, h1, h⟩ := Option.bind_eq_some_iff.1 h
    obtain ⟨t2, h2, h⟩ := Option.bind_eq_some_iff.1 h
    obtain ⟨⟨q1, q2, q3, q4⟩, h3, h⟩ := Option.bind_eq_some_iff.1 h
    cases h
    exact mul_yes k x A1 c1 l1 A2 c2 l2 y B1 d1 m1 B2 d2 m2 t1 t2 _ _ _ _ w ⟨Row.mk v1⟩ ⟨Row.mk v2⟩ ⟨Row.mk v3⟩ ⟨Row.mk v4⟩ h0 h1 h2 h3
  · rw [if_neg ht] at h
    cases h
    exact mul_no k x A1 c1 l1 A2 c2 l2 y B1 d1 m1 B2 d2 m2 _ w ⟨Row.mk v1⟩ ⟨Row.mk v2⟩ ⟨Row.mk v3⟩ ⟨Row.mk v4⟩ h0 ht
theorem rat_Div.calls (k : Nat) (x : Bool) (P0_1_ : Nat → Prop) (A1 : Option Addr) (c1 : Nat) (l1 : List Int) (P0_2_ : Nat → Prop) (A2 : Option Addr) (c2 : Nat) (l2 : List Int) (y : Bool) (P1_1_ : Nat → Prop) (B1 : Option Addr) (d1 : Nat) (m1 : List Int) (P1_2_ : Nat → Prop) (B2 : Option Addr) (d2 : Nat) (m2 : List Int) (r1 : Bool) (r2 r3 : List Int) (r4 : Int) (w : World) (v1 : Kd.V (Kd.int .u32) 109 w w.heap.size (fun k_ => P0_1_ k_) (.slice A1 l1.length c1) l1) (v2 : Kd.V (Kd.int .u32) 109 w w.heap.size (fun k_ => P0_2_ k_) (.slice A2 l2.length c2) l2) (v3 : Kd.V (Kd.int .u32) 109 w w.heap.size (fun k_ => P1_1_ k_) (.slice B1 m1.length d1) m1) (v4 : Kd.V (Kd.int .u32) 109 w w.heap.size (fun k_ => P1_2_ k_) (.slice B2 m2.length d2) m2) (h : rat_Div.f k x l1 l2 y m1 m2 = some (r1, r2, r3, r4)) : Calls Tryz.prog 141 #[.agg #[.bool x, .slice A1 l1.length c1, .slice A2 l2.length c2], .agg #[.bool y, .slice B1 m1.length d1, .slice B2 m2.length d2]] w (RatPost w r1 r2 r3 r4) := by
  unfold rat_Div.f at h
  obtain ⟨t, h0, h⟩ := Option.bind_eq_some_iff.1 h
  by_cases ht : t = 0
  · subst ht
    rw [if_pos rfl] at h
    by_cases hz : (m1.length : Int) = 0
    · rw [if_pos hz] at h
      cases h
      exact div_zero k x A1 c1 l1 A2 c2 l2 y B1 d1 m1 B2 d2 m2 w ⟨Row.mk v1⟩ ⟨Row.mk v2⟩ ⟨Row.mk v3⟩ ⟨Row.mk v4⟩ h0 hz
    · rw [if_neg hz] at h
      obtain ⟨t1, h1, h⟩ := Option.bind_eq_some_iff.1 h
      obtain ⟨t2, h2, h⟩ := Option.bind_eq_some_iff.1 h
      obtain ⟨⟨q1, q2, q3, q4⟩, h3, h⟩ := Option.bind_eq_some_iff.1 h
      cases h
      exact div_yes k x A1 c1 l1 A2 c2 l2 y B1 d1 m1 B2 d2 m2 t1 t2 _ _ _ _ w ⟨Row.mk v1⟩ ⟨Row.mk v2⟩ ⟨Row.mk v3⟩ ⟨Row.mk v4⟩ h0 hz h1 h2 h3
  · rw [if_neg ht] at h
    cases h
    exact div_no k x A1 c1 l1 A2 c2 l2 y B1 d1 m1 B2 d2 m2 _ w ⟨Row.mk v1⟩ ⟨Row.mk v2⟩ ⟨Row.mk v3⟩ ⟨Row.mk v4⟩ h0 ht
theorem rat_Add.calls (k : Nat) (x : Bool) (P0_1_ : Nat → Prop) (A1 : Option Addr) (c1 : Nat) (l1 : List Int) (P0_2_ : Nat → Prop) (A2 : Option Addr) (c2 : Nat) (l2 : List Int) (y : Bool) (P1_1_ : Nat → Prop) (B1 : Option Addr) (d1 : Nat) (m1 : List Int) (P1_2_ : Nat → Prop) (B2 : Option Addr) (d2 : Nat) (m2 : List Int) (r1 : Bool) (r2 r3 : List Int) (r4 : Int) (w : World) (v1 : Kd.V (Kd.int .u32) 109 w w.heap.size (fun k_ => P0_1_ k_) (.slice A1 l1.length c1) l1) (v2 : Kd.V (Kd.int .u32) 109 w w.heap.size (fun k_ => P0_2_ k_) (.slice A2 l2.length c2) l2) (v3 : Kd.V (Kd.int .u32) 109 w w.heap.size (fun k_ => P1_1_ k_) (.slice B1 m1.length d1) m1) (v4 : Kd.V (Kd.int .u32) 109 w w.heap.size (fun k_ => P1_2_ k_) (.slice B2 m2.length d2) m2) (h : rat_Add.f k x l1 l2 y m1 m2 = some (r1, r2, r3, r4)) : Calls Tryz.prog 142 #[.agg #[.bool x, .slice A1 l1.length c1, .slice A2 l2.length c2], .agg #[.bool y, .slice B1 m1.length d1, .slice B2 m2.length d2]] w (RatPost w r1 r2 r3 r4) := by
  unfold rat_Add.f at h
  obtain ⟨t, h0, h⟩ := Option.bind_eq_some_iff.1 h
  by_cases ht : t = 0
  · subst ht
    rw [if_pos rfl] at h
    obtain ⟨t1, h1, h⟩ := Option.bind_eq_some_iff.1 h
    obtain ⟨t2, h2, h⟩ := Option.bind_eq_some_iff.1 h
    obtain ⟨⟨b, s⟩, hs, h⟩ := Option.bind_eq_some_iff.1 h
    obtain ⟨t3, hp, h⟩ := Option.bind_eq_some_iff.1 h
    obtain ⟨⟨q1, q2, q3, q4⟩, h3, h⟩ := Option.bind_eq_some_iff.1 h
    cases h
    exact add_yes k x A1 c1 l1 A2 c2 l2 y B1 d1 m1 B2 d2 m2 t1 t2 t3 s b _ _ _ _ w ⟨Row.mk v1⟩ ⟨Row.mk v2⟩ ⟨Row.mk v3⟩ ⟨Row.mk v4⟩ h0 h1 h2 hs hp h3
  · rw [if_neg ht] at h
    cases h
    exact add_no k x A1 c1 l1 A2 c2 l2 y B1 d1 m1 B2 d2 m2 _ w ⟨Row.mk v1⟩ ⟨Row.mk v2⟩ ⟨Row.mk v3⟩ ⟨Row.mk v4⟩ h0 ht
end Go.Proofs.YtioofhilohmfbaaGreatDoor.P
end
section
namespace Go.Proofs.YtioofhilohmfbaaGreatDoor.P
open Go.RowKit Go.Proofs.YtioofhilohmfbaaGreatDoorW.PrintWords Go.Proofs.YtioofhilohmfbaaGreatDoorW.PrintLast Go.Proofs.YtioofhilohmfbaaGreatDoorW.PrintMore
attribute [local go_sem] max2_int min2_int max_two min_two max_three min_three max_four min_four
set_option linter.unusedVariables false
set_option linter.unusedSimpArgs false
/-! ### rat_New: function 96 -/
def rat_New.j0 : Nat → Bool → List Int → List Int → Bool → Option (Bool × List Int × List Int × Int)
  | 0, _, _, _, _ => none
  | k + 1, x0, x1, x2, x8 => if x8 = true then (some (false, ([] : List Int), ([] : List Int), 2)) else (if (x2.length : Int) = 0 then (some (false, ([] : List Int), ([] : List Int), 21)) else ((rat_reduced.f k x0 x1 x2).bind fun bt4 => (some (bt4.1, bt4.2.1, bt4.2.2.1, bt4.2.2.2))))
def rat_New.f (k : Nat) (a0 : Bool) (l1 : List Int) (l2 : List Int) : Option (Bool × List Int × List Int × Int) := (nat_Check.f l1).bind fun t2 => (if t2 = 0 then ((nat_Check.f l2).bind fun t3 => (if t3 = 0 then (rat_New.j0 k a0 l1 l2 (decide ((mx (l1.length : Int) (l2.length : Int)) > 32))) else (rat_New.j0 k a0 l1 l2 true))) else (rat_New.j0 k a0 l1 l2 true))
theorem rat_New.mono_l : ∀ k, (∀ y0 y1 y2 y3, LeO (rat_New.j0 k y0 y1 y2 y3) (rat_New.j0 (k + 1) y0 y1 y2 y3))
  | 0 => fun _ _ _ _ r h => by simp [rat_New.j0] at h
  | k + 1 => by
    have ih0 := rat_New.mono_l k
    · intro y0 y1 y2 y3
      unfold rat_New.j0
      repeat' first
      | (with_reducible exact ih0 _ _ _ _)
      | (with_reducible exact rat_reduced.mono _ _ _ _)
      | (with_reducible exact LeO.refl _)
      | (with_reducible exact LeO.none _)
      | (with_reducible refine LeO.ite ?_ ?_)
      | (with_reducible refine LeO.bind ?_ (fun _ => ?_))
      | exact ih0 _ _ _ _
      | exact rat_reduced.mono _ _ _ _
      | exact LeO.none _
      | refine LeO.ite ?_ ?_
      | refine LeO.bind ?_ (fun _ => ?_)
theorem rat_New.mono : ∀ a0 a1 a2 k, LeO (rat_New.f k a0 a1 a2) (rat_New.f (k + 1) a0 a1 a2) := by
  intro a0 a1 a2 k
  have ih0 := rat_New.mono_l k
  unfold rat_New.f
  repeat' first
      | (with_reducible exact ih0 _ _ _ _)
      | (with_reducible exact rat_reduced.mono _ _ _ _)
      | (with_reducible exact LeO.refl _)
      | (with_reducible exact LeO.none _)
      | (with_reducible refine LeO.ite ?_ ?_)
      | (with_reducible refine LeO.bind ?_ (fun _ => ?_))
      | exact ih0 _ _ _ _
      | exact rat_reduced.mono _ _ _ _
      | exact LeO.none _
      | refine LeO.ite ?_ ?_
      | refine LeO.bind ?_ (fun _ => ?_)
set_option maxHeartbeats 8000000 in
set_option maxRecDepth 100000 in
theorem rat_New.calls (k : Nat) (a0 : Bool) (A1 : Option Addr) (c1 : Nat) (l1 : List Int) (A2 : Option Addr) (c2 : Nat) (l2 : List Int) (r1 : Bool) (r2 : List Int) (r3 : List Int) (r4 : Int) (w : World) (hr1 : Kd.C (Kd.int .u32) w A1 l1.length l1) (hc1 : l1.length ≤ c1) (hr2 : Kd.C (Kd.int .u32) w A2 l2.length l2) (hc2 : l2.length ≤ c2) (h : rat_New.f k a0 l1 l2 = some (r1, r2, r3, r4)) :
    Calls Tryz.prog 96 #[.bool a0, .slice A1 l1.length c1, .slice A2 l2.length c2] w fun e w' => ∃ v1_ v2_ : Value, e = .returned (.tuple #[.agg #[.bool r1, v1_, v2_], .int .i64 r4]) ∧ Kd.R (Kd.int .u32) 109 w' w.heap.size (fun k_ => some k_ ≠ (v2_ : Value).ownBlock) v1_ r2 ∧ Kd.R (Kd.int .u32) 109 w' w.heap.size (fun k_ => some k_ ≠ (v1_ : Value).ownBlock) v2_ r3 ∧ Below w.heap.size w w' := by
  have hu41 := Tryz.underlying41
  have HR1 := Aside0.mk hr1
  have HC1 := Aside0.mk hc1
  clear hr1 hc1
  have HR2 := Aside0.mk hr2
  have HC2 := Aside0.mk hc2
  clear hr2 hc2
  have HB := Aside0.mk (Below.refl w.heap.size w)
  have H : ((nat_Check.f l1).bind fun t2 => (if t2 = 0 then ((nat_Check.f l2).bind fun t3 => (if t3 = 0 then (rat_New.j0 k a0 l1 l2 (decide ((mx (l1.length : Int) (l2.length : Int)) > 32))) else (rat_New.j0 k a0 l1 l2 true))) else (rat_New.j0 k a0 l1 l2 true))) = some (r1, r2, r3, r4) := h
  clear h
  have HC4 := Aside0.mk H
  clear H
  go_enter Tryz.func96, Tryz.ntmps96
  go_upto_region 1 with (first | ((with_reducible refine gate_dst (N := 6) rfl ?_); (try (refine gate_guard (by rfl) ?_; dsimp only)); refine box_event ?hg (N := 6) ?hd (cs := #[.bool false, .slice none 0 0, .slice none 0 0]) (t := 41) ?hr ?_; (case hd => rfl); (case hg => rfl); (case hr => first | (go_simp; done) | (go_simp; rfl)); intro gb1 hg w5 hbox hb; have n0_ := Aside0.mk (below_step (lc HB.out) hb); have n1_ := Aside0.mk (hbox); have n2_ := Aside0.mk ((by rw [hg]; exact (below_size (lc HB.out)) : w.heap.size ≤ gb1)); have n3_ := Aside0.mk ((by rw [hg]; exact (below_size (lc HB.out)) : w.heap.size ≤ gb1)); clear HB; have HB := n0_; have BK1 := n1_; have GW1 := n2_; have GE1 := n3_; clear n0_ n1_ n2_ n3_; clear hb hbox hg))
  (try simp only [Act.put, List.setIfInBounds_toArray, List.set_cons_zero, List.set_cons_succ])
  go_cut [8] (fun v8 wc => ∃ (kq : Nat) (x8_3 : Bool), v8 = .bool x8_3 ∧ Aside0 (rat_New.j0 kq a0 l1 l2 x8_3 = some (r1, r2, r3, r4)) ∧ Aside0 (kq ≤ k) ∧ Aside0 (wc.heap[gb1]? = some (.cells #[.bool false, (.slice none 0 0), (.slice none 0 0)] 41 (0, 0))) ∧ Aside0 (Below w.heap.size w wc))
  case first =>
    have H := HC4.out
    clear HC4
    replace H := Option.bind_eq_some_iff.mp H
    obtain ⟨t2, A60, H⟩ := H
    replace H : (if t2 = 0 then ((nat_Check.f l2).bind fun t3 => (if t3 = 0 then (rat_New.j0 k a0 l1 l2 (decide ((mx (l1.length : Int) (l2.length : Int)) > 32))) else (rat_New.j0 k a0 l1 l2 true))) else (rat_New.j0 k a0 l1 l2 true)) = some (r1, r2, r3, r4) := H
    have A6 := Aside0.mk A60
    clear A60
    by_cases c7 : t2 = 0
    · rw [if_pos c7] at H
      have c7b0 : (t2 == 0) = true := beq_iff_eq.mpr c7
      have c7b1 : (t2 != 0) = false := bne_eq_false_iff_eq.mpr c7
      clear c7
      (first | rw [c7b0] | (simp only [i64_w, i32_w]; rw [c7b0]) | skip)
      replace H := Option.bind_eq_some_iff.mp H
      obtain ⟨t3, A80, H⟩ := H
      replace H : (if t3 = 0 then (rat_New.j0 k a0 l1 l2 (decide ((mx (l1.length : Int) (l2.length : Int)) > 32))) else (rat_New.j0 k a0 l1 l2 true)) = some (r1, r2, r3, r4) := H
      have A8 := Aside0.mk A80
      clear A80
      by_cases c9 : t3 = 0
      · rw [if_pos c9] at H
        have c9b0 : (t3 == 0) = true := beq_iff_eq.mpr c9
        have c9b1 : (t3 != 0) = false := bne_eq_false_iff_eq.mpr c9
        clear c9
        obtain ⟨ji10, hji10⟩ : ∃ j_ : Int, (mx (l1.length : Int) (l2.length : Int)) = j_ := ⟨_, rfl⟩
        replace H : (rat_New.j0 k a0 l1 l2 (decide ((ji10) > 32))) = some (r1, r2, r3, r4) := by first | (rw [hji10] at H; exact H) | (simp only [hji10] at H ⊢; exact H)
        (try rw [hji10] at A6)
        (try rw [hji10] at A8)
        (try (have hji10l : 0 ≤ ji10 := by (rw [← hji10]; unfold mx; (repeat' split) <;> omega)))
        (try (have hji10m : 0 ≤ ji10 := by omega))
        have hji10_ : (if (l1.length : Int) < (l2.length : Int) then (l2.length : Int) else (l1.length : Int)) = ji10 := hji10
        have hmaxn_ : (if l1.length < l2.length then (l2.length : Int) else (l1.length : Int)) = ji10 := by rw [← hji10_]; by_cases h_ : l1.length < l2.length <;> simp [h_]
        have hmaxv_ : (if l1.length < l2.length then Value.int .i64 (l2.length : Int) else Value.int .i64 (l1.length : Int)) = Value.int .i64 ji10 := by rw [← hmaxn_]; split <;> rfl
        have H' := Aside0.mk H
        clear H
        go_wp2_with (first | (go_at_call 138; (with_reducible refine (nat_Check.calls _ _ l1 t2 _ ?side1 ?side2 A6.out).mono ?_); (case side1 => exact cc (Kd.C_below HR1.out HB.out)); (case side2 => exact HC1.out); rintro e w' ⟨rfl, ⟨nd, rfl⟩⟩) | (go_at_call 138; (with_reducible refine (nat_Check.calls _ _ l2 t3 _ ?side1 ?side2 A8.out).mono ?_); (case side1 => repeat (first | exact (Kd.C_below HR2.out (by repeat (first | (with_reducible first | exact HB.out | apply below_alloc | apply pw_below_drewN | apply below_drew1 | refine below_set ?_ GE1.out) | exact HB.out))) | (with_reducible refine Kd.C_alloc ?_ _) | (with_reducible refine Kd.C_drewN ?_ _) | (with_reducible refine Kd.C_drew ?_))); (case side2 => exact HC2.out); rintro e w' ⟨rfl, ⟨nd, rfl⟩⟩))
        go_meet
        case rel => exact ⟨_, (decide ((ji10) > 32)), (by first | rfl | (simp; done) | (simp only [← hji10] <;> (first | rfl | simp)) | (simp [*]; done)), H', ⟨by first | omega | exact Nat.le_refl _⟩, ⟨by (with_reducible repeat (first | refine blk_drewN ?_ _ | refine blk_drew ?_ | refine blk_alloc ?_ _)); exact BK1.out⟩, ⟨by repeat (first | (with_reducible first | exact HB.out | apply below_alloc | apply pw_below_drewN | apply below_drew1 | refine below_set ?_ GE1.out) | exact HB.out)⟩⟩
      · rw [if_neg c9] at H
        have c9b0 : (t3 == 0) = false := beq_eq_false_iff_ne.mpr c9
        have c9b1 : (t3 != 0) = true := bne_iff_ne.mpr c9
        have H' := Aside0.mk H
        clear H
        go_wp2_with (first | (go_at_call 138; (with_reducible refine (nat_Check.calls _ _ l1 t2 _ ?side1 ?side2 A6.out).mono ?_); (case side1 => exact cc (Kd.C_below HR1.out HB.out)); (case side2 => exact HC1.out); rintro e w' ⟨rfl, ⟨nd, rfl⟩⟩) | (go_at_call 138; (with_reducible refine (nat_Check.calls _ _ l2 t3 _ ?side1 ?side2 A8.out).mono ?_); (case side1 => repeat (first | exact (Kd.C_below HR2.out (by repeat (first | (with_reducible first | exact HB.out | apply below_alloc | apply pw_below_drewN | apply below_drew1 | refine below_set ?_ GE1.out) | exact HB.out))) | (with_reducible refine Kd.C_alloc ?_ _) | (with_reducible refine Kd.C_drewN ?_ _) | (with_reducible refine Kd.C_drew ?_))); (case side2 => exact HC2.out); rintro e w' ⟨rfl, ⟨nd, rfl⟩⟩))
        go_meet
        case rel => exact ⟨_, (true), (by first | rfl | (simp; done) | (simp [*]; done)), H', ⟨by first | omega | exact Nat.le_refl _⟩, ⟨by (with_reducible repeat (first | refine blk_drewN ?_ _ | refine blk_drew ?_ | refine blk_alloc ?_ _)); exact BK1.out⟩, ⟨by repeat (first | (with_reducible first | exact HB.out | apply below_alloc | apply pw_below_drewN | apply below_drew1 | refine below_set ?_ GE1.out) | exact HB.out)⟩⟩
    · rw [if_neg c7] at H
      have c7b0 : (t2 == 0) = false := beq_eq_false_iff_ne.mpr c7
      have c7b1 : (t2 != 0) = true := bne_iff_ne.mpr c7
      (first | rw [c7b0] | (simp only [i64_w, i32_w]; rw [c7b0]) | skip)
      have H' := Aside0.mk H
      clear H
      go_wp2_with (first | (go_at_call 138; (with_reducible refine (nat_Check.calls _ _ l1 t2 _ ?side1 ?side2 A6.out).mono ?_); (case side1 => exact cc (Kd.C_below HR1.out HB.out)); (case side2 => exact HC1.out); rintro e w' ⟨rfl, ⟨nd, rfl⟩⟩))
      go_meet
      case rel => exact ⟨_, (true), (by first | rfl | (simp; done) | (simp [*]; done)), H', ⟨by first | omega | exact Nat.le_refl _⟩, ⟨by (with_reducible repeat (first | refine blk_drewN ?_ _ | refine blk_drew ?_ | refine blk_alloc ?_ _)); exact BK1.out⟩, ⟨by repeat (first | (with_reducible first | exact HB.out | apply below_alloc | apply pw_below_drewN | apply below_drew1 | refine below_set ?_ GE1.out) | exact HB.out)⟩⟩
  case rest =>
    clear HC4
    try clear c1
    try clear c2
    try clear p2
    try clear c7
    try clear c7b0
    try clear c7b1
    try clear c9
    try clear c9b0
    try clear c9b1
    obtain ⟨kq, x8_3, rfl, HA, HJ3, BK1, HB⟩ := hcut
    cases kq with
    | zero => exact absurd HA.out (by simp [rat_New.j0])
    | succ kj3 =>
      have H := HA.out
      clear HA
      simp only [rat_New.j0] at H
      by_cases c11 : x8_3 = true
      · subst c11
        have H1 : (some (false, ([] : List Int), ([] : List Int), 2)) = some (r1, r2, r3, r4) := by rw [if_pos rfl] at H; exact H
        clear H
        have H := H1
        clear H1
        simp only [Option.some.injEq, Prod.mk.injEq] at H
        obtain ⟨rfl, rfl, rfl, rfl⟩ := H
        have hcz12_0 : wc.cell? ⟨gb1, 0, none⟩ = some (.bool false) := (blk_cell BK1.out 0).trans rfl
        have hcz12_1 : wc.cell? ⟨gb1, 1, none⟩ = some (.slice none 0 0) := (blk_cell BK1.out 1).trans rfl
        have hcz12_2 : wc.cell? ⟨gb1, 2, none⟩ = some (.slice none 0 0) := (blk_cell BK1.out 2).trans rfl
        have hfz12_0 := blk_frozen BK1.out 0
        have hfz12_1 := blk_frozen BK1.out 1
        have hfz12_2 := blk_frozen BK1.out 2
        go_wp2
        refine bodyPost_ret (results_ct rfl _ _ gb1 41 #[.bool false, .slice none 0 0, .slice none 0 0] (0, 0) _ rfl (by (with_reducible repeat (first | refine blk_drewN ?_ _ | refine blk_drew ?_ | refine blk_alloc ?_ _)); refine blk_put (cs := #[.bool false, .slice none 0 0, .slice none 0 0]) ?_ 2 _ rfl; (with_reducible repeat (first | refine blk_drewN ?_ _ | refine blk_drew ?_ | refine blk_alloc ?_ _)); refine blk_put (cs := #[.bool false, .slice none 0 0, .slice none 0 0]) ?_ 1 _ rfl; (with_reducible repeat (first | refine blk_drewN ?_ _ | refine blk_drew ?_ | refine blk_alloc ?_ _)); refine blk_put (cs := #[.bool false, .slice none 0 0, .slice none 0 0]) ?_ 0 _ rfl; (with_reducible repeat (first | refine blk_drewN ?_ _ | refine blk_drew ?_ | refine blk_alloc ?_ _)); exact BK1.out) Tryz.underlying41 rfl (by kernel_rfl)) rfl ?_
        exact ⟨_, _, by first | rfl | (simp [errW_none, errW_some] <;> rfl) | (simp [*, errW_none, errW_some] <;> rfl), by first | exact Kd.R_nil _ _ _ _ _ | exact Kd.N_nil _ _ _ _ _ | exact Kd.V_nil _ _ _ _ _ | exact Kd.Q_nil _ _ _ _ _ | exact Kd.S_nil _ _ _ _ _, by first | exact Kd.R_nil _ _ _ _ _ | exact Kd.N_nil _ _ _ _ _ | exact Kd.V_nil _ _ _ _ _ | exact Kd.Q_nil _ _ _ _ _ | exact Kd.S_nil _ _ _ _ _, by repeat (first | (with_reducible first | exact HB.out | apply below_alloc | apply pw_below_drewN | apply below_drew1 | refine below_set ?_ GE1.out) | exact HB.out)⟩
      · replace c11 := Bool.eq_false_iff.mpr c11
        subst c11
        have H1 : (if (l2.length : Int) = 0 then (some (false, ([] : List Int), ([] : List Int), 21)) else ((rat_reduced.f kj3 a0 l1 l2).bind fun bt4 => (some (bt4.1, bt4.2.1, bt4.2.2.1, bt4.2.2.2)))) = some (r1, r2, r3, r4) := by rw [if_neg (show ¬ (false = true) by decide)] at H; exact H
        clear H
        have H := H1
        clear H1
        by_cases c13 : (l2.length : Int) = 0
        · rw [if_pos c13] at H
          have c13b0 : ((l2.length : Int) == 0) = true := beq_iff_eq.mpr c13
          have c13b1 : ((l2.length : Int) != 0) = false := bne_eq_false_iff_eq.mpr c13
          clear c13
          simp only [Option.some.injEq, Prod.mk.injEq] at H
          obtain ⟨rfl, rfl, rfl, rfl⟩ := H
          have hcz14_0 : wc.cell? ⟨gb1, 0, none⟩ = some (.bool false) := (blk_cell BK1.out 0).trans rfl
          have hcz14_1 : wc.cell? ⟨gb1, 1, none⟩ = some (.slice none 0 0) := (blk_cell BK1.out 1).trans rfl
          have hcz14_2 : wc.cell? ⟨gb1, 2, none⟩ = some (.slice none 0 0) := (blk_cell BK1.out 2).trans rfl
          have hfz14_0 := blk_frozen BK1.out 0
          have hfz14_1 := blk_frozen BK1.out 1
          have hfz14_2 := blk_frozen BK1.out 2
          go_wp2
          refine bodyPost_ret (results_ct rfl _ _ gb1 41 #[.bool false, .slice none 0 0, .slice none 0 0] (0, 0) _ rfl (by (with_reducible repeat (first | refine blk_drewN ?_ _ | refine blk_drew ?_ | refine blk_alloc ?_ _)); refine blk_put (cs := #[.bool false, .slice none 0 0, .slice none 0 0]) ?_ 2 _ rfl; (with_reducible repeat (first | refine blk_drewN ?_ _ | refine blk_drew ?_ | refine blk_alloc ?_ _)); refine blk_put (cs := #[.bool false, .slice none 0 0, .slice none 0 0]) ?_ 1 _ rfl; (with_reducible repeat (first | refine blk_drewN ?_ _ | refine blk_drew ?_ | refine blk_alloc ?_ _)); refine blk_put (cs := #[.bool false, .slice none 0 0, .slice none 0 0]) ?_ 0 _ rfl; (with_reducible repeat (first | refine blk_drewN ?_ _ | refine blk_drew ?_ | refine blk_alloc ?_ _)); exact BK1.out) Tryz.underlying41 rfl (by kernel_rfl)) rfl ?_
          exact ⟨_, _, by first | rfl | (simp [errW_none, errW_some] <;> rfl) | (simp [*, errW_none, errW_some] <;> rfl), by first | exact Kd.R_nil _ _ _ _ _ | exact Kd.N_nil _ _ _ _ _ | exact Kd.V_nil _ _ _ _ _ | exact Kd.Q_nil _ _ _ _ _ | exact Kd.S_nil _ _ _ _ _, by first | exact Kd.R_nil _ _ _ _ _ | exact Kd.N_nil _ _ _ _ _ | exact Kd.V_nil _ _ _ _ _ | exact Kd.Q_nil _ _ _ _ _ | exact Kd.S_nil _ _ _ _ _, by repeat (first | (with_reducible first | exact HB.out | apply below_alloc | apply pw_below_drewN | apply below_drew1 | refine below_set ?_ GE1.out) | exact HB.out)⟩
        · rw [if_neg c13] at H
          have c13b0 : ((l2.length : Int) == 0) = false := beq_eq_false_iff_ne.mpr c13
          have c13b1 : ((l2.length : Int) != 0) = true := bne_iff_ne.mpr c13
          have c13b2 : ¬ (l2 = []) := fun h_ => c13 (by rw [h_]; rfl)
          replace H := Option.bind_eq_some_iff.mp H
          obtain ⟨⟨t4, t5, t8, t11⟩, A150, H⟩ := H
          replace H : (some (t4, t5, t8, t11)) = some (r1, r2, r3, r4) := H
          have A15 := Aside0.mk A150
          clear A150
          simp only [Option.some.injEq, Prod.mk.injEq] at H
          obtain ⟨rfl, rfl, rfl, rfl⟩ := H
          go_wp2_with (first | (go_at_call 139; (with_reducible refine (rat_reduced.calls kj3 a0 _ _ l1 _ _ l2 t4 t5 t8 t11 _ ?side1 ?side2 ?side3 ?side4 A15.out).mono ?_); (case side1 => exact cc (Kd.C_below HR1.out HB.out)); (case side2 => exact HC1.out); (case side3 => exact cc (Kd.C_below HR2.out HB.out)); (case side4 => exact HC2.out); rintro e w16 ⟨v6, v9, rfl, ho0, ho1, hb⟩; have n0_ := Aside0.mk (Kd.R_lower ho0 (below_size (by repeat (first | (with_reducible first | exact HB.out | apply below_alloc | apply pw_below_drewN | apply below_drew1 | refine below_set ?_ GE1.out) | exact HB.out)))); have n1_ := Aside0.mk (Kd.R_lower ho1 (below_size (by repeat (first | (with_reducible first | exact HB.out | apply below_alloc | apply pw_below_drewN | apply below_drew1 | refine below_set ?_ GE1.out) | exact HB.out)))); have n2_ := Aside0.mk (blk_below (g := gb1) (o := .cells #[.bool false, .slice none 0 0, .slice none 0 0] 41 (0, 0)) (bc BK1.out) hb); have n3_ := Aside0.mk (below_step (by repeat (first | (with_reducible first | exact HB.out | apply below_alloc | apply pw_below_drewN | apply below_drew1 | refine below_set ?_ GE1.out) | exact HB.out)) hb); clear BK1; clear HB; have HO7 := n0_; have HO10 := n1_; have BK1 := n2_; have HB := n3_; clear n0_ n1_ n2_ n3_; (try clear hb); (try clear hb2); (try clear hk); (try clear hi); (try clear ho0); (try clear ho1); have hcz17_0 : w16.cell? ⟨gb1, 0, none⟩ = some (.bool false) := (blk_cell BK1.out 0).trans rfl; have hcz17_1 : w16.cell? ⟨gb1, 1, none⟩ = some (.slice none 0 0) := (blk_cell BK1.out 1).trans rfl; have hcz17_2 : w16.cell? ⟨gb1, 2, none⟩ = some (.slice none 0 0) := (blk_cell BK1.out 2).trans rfl; have hfz17_0 := blk_frozen BK1.out 0; have hfz17_1 := blk_frozen BK1.out 1; have hfz17_2 := blk_frozen BK1.out 2; obtain ⟨Ao18, co18, eo18⟩ := Kd.R_slice HO7.out; subst eo18; obtain ⟨Ao19, co19, eo19⟩ := Kd.R_slice HO10.out; subst eo19))
          refine bodyPost_ret (results_ct rfl _ _ gb1 41 #[.bool t4, .slice Ao18 t5.length co18, .slice Ao19 t8.length co19] (0, 0) _ rfl (by (with_reducible repeat (first | refine blk_drewN ?_ _ | refine blk_drew ?_ | refine blk_alloc ?_ _)); refine blk_put (cs := #[.bool t4, .slice Ao18 t5.length co18, .slice none 0 0]) ?_ 2 _ rfl; (with_reducible repeat (first | refine blk_drewN ?_ _ | refine blk_drew ?_ | refine blk_alloc ?_ _)); refine blk_put (cs := #[.bool t4, .slice none 0 0, .slice none 0 0]) ?_ 1 _ rfl; (with_reducible repeat (first | refine blk_drewN ?_ _ | refine blk_drew ?_ | refine blk_alloc ?_ _)); refine blk_put (cs := #[.bool false, .slice none 0 0, .slice none 0 0]) ?_ 0 _ rfl; (with_reducible repeat (first | refine blk_drewN ?_ _ | refine blk_drew ?_ | refine blk_alloc ?_ _)); exact BK1.out) Tryz.underlying41 rfl (by kernel_rfl)) rfl ?_
          exact ⟨_, _, by first | rfl | (simp [errW_none, errW_some] <;> rfl) | (simp [*, errW_none, errW_some] <;> rfl), by (with_reducible repeat (first | apply Kd.R_alloc | apply Kd.R_drewN | apply Kd.R_drew)); exact Kd.R_mono (Kd.R_far (p := ⟨gb1, 2, none⟩) (Kd.R_far (p := ⟨gb1, 1, none⟩) (Kd.R_far (p := ⟨gb1, 0, none⟩) (Kd.R_types HO7.out BK1.out (by decide)) (fun _ hk => hk.2) (.bool t4)) (fun _ hk => hk.2) (.slice Ao18 t5.length co18)) (fun _ hk => hk.2) (.slice Ao19 t8.length co19)) (fun _ hk => hk.1), by (with_reducible repeat (first | apply Kd.R_alloc | apply Kd.R_drewN | apply Kd.R_drew)); exact Kd.R_mono (Kd.R_far (p := ⟨gb1, 2, none⟩) (Kd.R_far (p := ⟨gb1, 1, none⟩) (Kd.R_far (p := ⟨gb1, 0, none⟩) (Kd.R_types HO10.out BK1.out (by decide)) (fun _ hk => hk.2) (.bool t4)) (fun _ hk => hk.2) (.slice Ao18 t5.length co18)) (fun _ hk => hk.2) (.slice Ao19 t8.length co19)) (fun _ hk => hk.1), by repeat (first | (with_reducible first | exact HB.out | apply below_alloc | apply pw_below_drewN | apply below_drew1 | refine below_set ?_ GE1.out) | exact HB.out)⟩
end Go.Proofs.YtioofhilohmfbaaGreatDoor.P
end
section
namespace Go.Proofs.YtioofhilohmfbaaGreatDoor.P
open Go.RowKit Go.Proofs.YtioofhilohmfbaaGreatDoorW.PrintWords Go.Proofs.YtioofhilohmfbaaGreatDoorW.PrintLast Go.Proofs.YtioofhilohmfbaaGreatDoorW.PrintMore
attribute [local go_sem] max2_int min2_int max_two min_two max_three min_three max_four min_four
set_option linter.unusedVariables false
set_option linter.unusedSimpArgs false
/-! ### rat_Of: function 103 -/
def rat_Of.f (k : Nat) (a0 : Int) : Option (Bool × List Int × List Int) := if a0 < 0 then ((nat_Of.f k (IntKind.u64.wrap (-(IntKind.u64.wrap (a0))))).bind fun t2 => ((rat_one.f k).bind fun t5 => (some (decide (a0 < 0), t2, t5)))) else ((nat_Of.f k (IntKind.u64.wrap (a0))).bind fun t8 => ((rat_one.f k).bind fun t11 => (some (decide (a0 < 0), t8, t11))))
theorem rat_Of.mono : ∀ a0 k, LeO (rat_Of.f k a0) (rat_Of.f (k + 1) a0) := by
  intro a0 k
  unfold rat_Of.f
  repeat' first
      | (with_reducible exact nat_Of.mono _ _)
      | (with_reducible exact rat_one.mono _)
      | (with_reducible exact LeO.refl _)
      | (with_reducible exact LeO.none _)
      | (with_reducible refine LeO.ite ?_ ?_)
      | (with_reducible refine LeO.bind ?_ (fun _ => ?_))
      | exact nat_Of.mono _ _
      | exact rat_one.mono _
      | exact LeO.none _
      | refine LeO.ite ?_ ?_
      | refine LeO.bind ?_ (fun _ => ?_)
set_option maxHeartbeats 8000000 in
set_option maxRecDepth 100000 in
theorem rat_Of.calls (k : Nat) (a0 : Int) (r1 : Bool) (r2 : List Int) (r3 : List Int) (w : World) (h : rat_Of.f k a0 = some (r1, r2, r3)) :
    Calls Tryz.prog 103 #[.int .i64 a0] w fun e w' => ∃ v1_ v2_ : Value, e = .returned (.agg #[.bool r1, v1_, v2_]) ∧ Kd.V (Kd.int .u32) 109 w' w.heap.size (fun k_ => (w.heap.size ≤ k_)) v1_ r2 ∧ Kd.V (Kd.int .u32) 109 w' w.heap.size (fun k_ => (w.heap.size ≤ k_)) v2_ r3 ∧ Below w.heap.size w w' := by
  have hu41 := Tryz.underlying41
  have HB := Aside0.mk (Below.refl w.heap.size w)
  have H : (if a0 < 0 then ((nat_Of.f k (IntKind.u64.wrap (-(IntKind.u64.wrap (a0))))).bind fun t2 => ((rat_one.f k).bind fun t5 => (some (decide (a0 < 0), t2, t5)))) else ((nat_Of.f k (IntKind.u64.wrap (a0))).bind fun t8 => ((rat_one.f k).bind fun t11 => (some (decide (a0 < 0), t8, t11))))) = some (r1, r2, r3) := h
  clear h
  by_cases c2 : a0 < 0
  · rw [if_pos c2] at H
    have c2b0 : decide (a0 < 0) = true := decide_eq_true c2
    clear c2
    replace H := Option.bind_eq_some_iff.mp H
    obtain ⟨t2, A30, H⟩ := H
    replace H : ((rat_one.f k).bind fun t5 => (some (decide (a0 < 0), t2, t5))) = some (r1, r2, r3) := H
    have A3 := Aside0.mk A30
    clear A30
    replace H := Option.bind_eq_some_iff.mp H
    obtain ⟨t5, A40, H⟩ := H
    replace H : (some (decide (a0 < 0), t2, t5)) = some (r1, r2, r3) := H
    have A4 := Aside0.mk A40
    clear A40
    simp only [Option.some.injEq, Prod.mk.injEq] at H
    obtain ⟨rfl, rfl, rfl⟩ := H
    simp only [c2b0]
    go_enter Tryz.func103, Tryz.ntmps103
    go_wp2_with (first | ((with_reducible refine gate_dst (N := 2) rfl ?_); refine box_event ?hg (N := 2) ?hd (cs := #[.bool false, .slice none 0 0, .slice none 0 0]) (t := 41) ?hr ?_; (case hd => rfl); (case hg => rfl); (case hr => first | (go_simp; done) | (go_simp; rfl)); intro gb1 hg w5 hbox hb; have n0_ := Aside0.mk (below_step (lc HB.out) hb); have n1_ := Aside0.mk (hbox); have n2_ := Aside0.mk ((by rw [hg]; exact (below_size (lc HB.out)) : w.heap.size ≤ gb1)); have n3_ := Aside0.mk ((by rw [hg]; exact (below_size (lc HB.out)) : w.heap.size ≤ gb1)); clear HB; have HB := n0_; have BK1 := n1_; have GW1 := n2_; have GE1 := n3_; clear n0_ n1_ n2_ n3_; clear hb hbox hg) | (go_at_call 137; (with_reducible refine (nat_Of.calls k (IntKind.u64.wrap (-(IntKind.u64.wrap (a0)))) t2 _ A3.out).mono ?_); rintro e w6 ⟨v3, rfl, ho0, hb⟩; have n0_ := Aside0.mk (Kd.V_lower (Kd.V_mono (ok' := fun k_ => (w.heap.size ≤ k_) ∧ k_ ≠ gb1) ho0 (fun k_ hk_ => ⟨(Nat.le_trans (below_size (by repeat (first | (with_reducible first | exact HB.out | apply below_alloc | apply pw_below_drewN | apply below_drew1 | refine below_set ?_ GE1.out) | exact HB.out))) hk_), (Kd.freshB (g := gb1) (o := .cells #[.bool false, .slice none 0 0, .slice none 0 0] 41 (0, 0)) (bc BK1.out) k_ hk_)⟩)) (below_size (by repeat (first | (with_reducible first | exact HB.out | apply below_alloc | apply pw_below_drewN | apply below_drew1 | refine below_set ?_ GE1.out) | exact HB.out)))); have n1_ := Aside0.mk (blk_below (g := gb1) (o := .cells #[.bool false, .slice none 0 0, .slice none 0 0] 41 (0, 0)) (bc BK1.out) hb); have n2_ := Aside0.mk (below_step (by repeat (first | (with_reducible first | exact HB.out | apply below_alloc | apply pw_below_drewN | apply below_drew1 | refine below_set ?_ GE1.out) | exact HB.out)) hb); clear BK1; clear HB; have HO4 := n0_; have BK1 := n1_; have HB := n2_; clear n0_ n1_ n2_; (try clear hb); (try clear hb2); (try clear hk); (try clear hi); (try clear ho0)) | (go_at_call 132; (with_reducible refine (rat_one.calls k  t5 _ A4.out).mono ?_); rintro e w7 ⟨v6, rfl, ho0, hb⟩; have n0_ := Aside0.mk (Kd.V_below (vc HO4.out) hb); have n1_ := Aside0.mk (Kd.V_lower (Kd.V_mono (ok' := fun k_ => (w.heap.size ≤ k_) ∧ k_ ≠ gb1) ho0 (fun k_ hk_ => ⟨(Nat.le_trans (below_size (by repeat (first | (with_reducible first | exact HB.out | apply below_alloc | apply pw_below_drewN | apply below_drew1 | refine below_set ?_ GE1.out) | exact HB.out))) hk_), (Kd.freshB (g := gb1) (o := .cells #[.bool false, .slice none 0 0, .slice none 0 0] 41 (0, 0)) (bc BK1.out) k_ hk_)⟩)) (below_size (by repeat (first | (with_reducible first | exact HB.out | apply below_alloc | apply pw_below_drewN | apply below_drew1 | refine below_set ?_ GE1.out) | exact HB.out)))); have n2_ := Aside0.mk (blk_below (g := gb1) (o := .cells #[.bool false, .slice none 0 0, .slice none 0 0] 41 (0, 0)) (bc BK1.out) hb); have n3_ := Aside0.mk (below_step (by repeat (first | (with_reducible first | exact HB.out | apply below_alloc | apply pw_below_drewN | apply below_drew1 | refine below_set ?_ GE1.out) | exact HB.out)) hb); clear HO4; clear BK1; clear HB; have HO4 := n0_; have HO7 := n1_; have BK1 := n2_; have HB := n3_; clear n0_ n1_ n2_ n3_; (try clear hb); (try clear hb2); (try clear hk); (try clear hi); (try clear ho0); obtain ⟨Ao8, co8, eo8⟩ := Kd.V_slice HO7.out; subst eo8; obtain ⟨Ao9, co9, eo9⟩ := Kd.V_slice HO4.out; subst eo9; have hcz10_0 : w7.cell? ⟨gb1, 0, none⟩ = some (.bool false) := (blk_cell BK1.out 0).trans rfl; have hcz10_1 : w7.cell? ⟨gb1, 1, none⟩ = some (.slice none 0 0) := (blk_cell BK1.out 1).trans rfl; have hcz10_2 : w7.cell? ⟨gb1, 2, none⟩ = some (.slice none 0 0) := (blk_cell BK1.out 2).trans rfl; have hfz10_0 := blk_frozen BK1.out 0; have hfz10_1 := blk_frozen BK1.out 1; have hfz10_2 := blk_frozen BK1.out 2))
    refine bodyPost_ret (results_cell_row rfl _ _ gb1 41 #[.bool (true), .slice Ao9 t2.length co9, .slice Ao8 t5.length co8] (0, 0) _ rfl (by (with_reducible repeat (first | refine blk_drewN ?_ _ | refine blk_drew ?_ | refine blk_alloc ?_ _)); refine blk_put (cs := #[.bool (true), .slice Ao9 t2.length co9, .slice none 0 0]) ?_ 2 _ rfl; (with_reducible repeat (first | refine blk_drewN ?_ _ | refine blk_drew ?_ | refine blk_alloc ?_ _)); refine blk_put (cs := #[.bool (true), .slice none 0 0, .slice none 0 0]) ?_ 1 _ rfl; (with_reducible repeat (first | refine blk_drewN ?_ _ | refine blk_drew ?_ | refine blk_alloc ?_ _)); refine blk_put (cs := #[.bool false, .slice none 0 0, .slice none 0 0]) ?_ 0 _ rfl; (with_reducible repeat (first | refine blk_drewN ?_ _ | refine blk_drew ?_ | refine blk_alloc ?_ _)); exact BK1.out) Tryz.underlying41 rfl (by kernel_rfl)) rfl ?_
    exact ⟨_, _, by first | rfl | (simp [errW_none, errW_some] <;> rfl) | (simp [*, errW_none, errW_some] <;> rfl), by (with_reducible repeat (first | apply Kd.V_alloc | apply Kd.V_drewN | apply Kd.V_drew)); exact Kd.V_mono (Kd.V_far (p := ⟨gb1, 2, none⟩) (Kd.V_far (p := ⟨gb1, 1, none⟩) (Kd.V_far (p := ⟨gb1, 0, none⟩) (Kd.V_mono HO4.out (fun k_ hk => (⟨hk, hk.2⟩ : _ ∧ k_ ≠ gb1))) (fun _ hk => hk.2) (.bool (true))) (fun _ hk => hk.2) (.slice Ao9 t2.length co9)) (fun _ hk => hk.2) (.slice Ao8 t5.length co8)) (fun _ hk => hk.1.1), by (with_reducible repeat (first | apply Kd.V_alloc | apply Kd.V_drewN | apply Kd.V_drew)); exact Kd.V_mono (Kd.V_far (p := ⟨gb1, 2, none⟩) (Kd.V_far (p := ⟨gb1, 1, none⟩) (Kd.V_far (p := ⟨gb1, 0, none⟩) (Kd.V_mono HO7.out (fun k_ hk => (⟨hk, hk.2⟩ : _ ∧ k_ ≠ gb1))) (fun _ hk => hk.2) (.bool (true))) (fun _ hk => hk.2) (.slice Ao9 t2.length co9)) (fun _ hk => hk.2) (.slice Ao8 t5.length co8)) (fun _ hk => hk.1.1), by repeat (first | (with_reducible first | exact HB.out | apply below_alloc | apply pw_below_drewN | apply below_drew1 | refine below_set ?_ GE1.out) | exact HB.out)⟩
  · rw [if_neg c2] at H
    have c2b0 : decide (a0 < 0) = false := decide_eq_false c2
    clear c2
    replace H := Option.bind_eq_some_iff.mp H
    obtain ⟨t8, A110, H⟩ := H
    replace H : ((rat_one.f k).bind fun t11 => (some (decide (a0 < 0), t8, t11))) = some (r1, r2, r3) := H
    have A11 := Aside0.mk A110
    clear A110
    replace H := Option.bind_eq_some_iff.mp H
    obtain ⟨t11, A120, H⟩ := H
    replace H : (some (decide (a0 < 0), t8, t11)) = some (r1, r2, r3) := H
    have A12 := Aside0.mk A120
    clear A120
    simp only [Option.some.injEq, Prod.mk.injEq] at H
    obtain ⟨rfl, rfl, rfl⟩ := H
    simp only [c2b0]
    go_enter Tryz.func103, Tryz.ntmps103
    go_wp2_with (first | ((with_reducible refine gate_dst (N := 2) rfl ?_); refine box_event ?hg (N := 2) ?hd (cs := #[.bool false, .slice none 0 0, .slice none 0 0]) (t := 41) ?hr ?_; (case hd => rfl); (case hg => rfl); (case hr => first | (go_simp; done) | (go_simp; rfl)); intro gb1 hg w13 hbox hb; have n0_ := Aside0.mk (below_step (lc HB.out) hb); have n1_ := Aside0.mk (hbox); have n2_ := Aside0.mk ((by rw [hg]; exact (below_size (lc HB.out)) : w.heap.size ≤ gb1)); have n3_ := Aside0.mk ((by rw [hg]; exact (below_size (lc HB.out)) : w.heap.size ≤ gb1)); clear HB; have HB := n0_; have BK1 := n1_; have GW1 := n2_; have GE1 := n3_; clear n0_ n1_ n2_ n3_; clear hb hbox hg) | (go_at_call 137; (with_reducible refine (nat_Of.calls k (IntKind.u64.wrap (a0)) t8 _ A11.out).mono ?_); rintro e w14 ⟨v9, rfl, ho0, hb⟩; have n0_ := Aside0.mk (Kd.V_lower (Kd.V_mono (ok' := fun k_ => (w.heap.size ≤ k_) ∧ k_ ≠ gb1) ho0 (fun k_ hk_ => ⟨(Nat.le_trans (below_size (by repeat (first | (with_reducible first | exact HB.out | apply below_alloc | apply pw_below_drewN | apply below_drew1 | refine below_set ?_ GE1.out) | exact HB.out))) hk_), (Kd.freshB (g := gb1) (o := .cells #[.bool false, .slice none 0 0, .slice none 0 0] 41 (0, 0)) (bc BK1.out) k_ hk_)⟩)) (below_size (by repeat (first | (with_reducible first | exact HB.out | apply below_alloc | apply pw_below_drewN | apply below_drew1 | refine below_set ?_ GE1.out) | exact HB.out)))); have n1_ := Aside0.mk (blk_below (g := gb1) (o := .cells #[.bool false, .slice none 0 0, .slice none 0 0] 41 (0, 0)) (bc BK1.out) hb); have n2_ := Aside0.mk (below_step (by repeat (first | (with_reducible first | exact HB.out | apply below_alloc | apply pw_below_drewN | apply below_drew1 | refine below_set ?_ GE1.out) | exact HB.out)) hb); clear BK1; clear HB; have HO10 := n0_; have BK1 := n1_; have HB := n2_; clear n0_ n1_ n2_; (try clear hb); (try clear hb2); (try clear hk); (try clear hi); (try clear ho0)) | (go_at_call 132; (with_reducible refine (rat_one.calls k  t11 _ A12.out).mono ?_); rintro e w15 ⟨v12, rfl, ho0, hb⟩; have n0_ := Aside0.mk (Kd.V_below (vc HO10.out) hb); have n1_ := Aside0.mk (Kd.V_lower (Kd.V_mono (ok' := fun k_ => (w.heap.size ≤ k_) ∧ k_ ≠ gb1) ho0 (fun k_ hk_ => ⟨(Nat.le_trans (below_size (by repeat (first | (with_reducible first | exact HB.out | apply below_alloc | apply pw_below_drewN | apply below_drew1 | refine below_set ?_ GE1.out) | exact HB.out))) hk_), (Kd.freshB (g := gb1) (o := .cells #[.bool false, .slice none 0 0, .slice none 0 0] 41 (0, 0)) (bc BK1.out) k_ hk_)⟩)) (below_size (by repeat (first | (with_reducible first | exact HB.out | apply below_alloc | apply pw_below_drewN | apply below_drew1 | refine below_set ?_ GE1.out) | exact HB.out)))); have n2_ := Aside0.mk (blk_below (g := gb1) (o := .cells #[.bool false, .slice none 0 0, .slice none 0 0] 41 (0, 0)) (bc BK1.out) hb); have n3_ := Aside0.mk (below_step (by repeat (first | (with_reducible first | exact HB.out | apply below_alloc | apply pw_below_drewN | apply below_drew1 | refine below_set ?_ GE1.out) | exact HB.out)) hb); clear HO10; clear BK1; clear HB; have HO10 := n0_; have HO13 := n1_; have BK1 := n2_; have HB := n3_; clear n0_ n1_ n2_ n3_; (try clear hb); (try clear hb2); (try clear hk); (try clear hi); (try clear ho0); obtain ⟨Ao16, co16, eo16⟩ := Kd.V_slice HO13.out; subst eo16; obtain ⟨Ao17, co17, eo17⟩ := Kd.V_slice HO10.out; subst eo17; have hcz18_0 : w15.cell? ⟨gb1, 0, none⟩ = some (.bool false) := (blk_cell BK1.out 0).trans rfl; have hcz18_1 : w15.cell? ⟨gb1, 1, none⟩ = some (.slice none 0 0) := (blk_cell BK1.out 1).trans rfl; have hcz18_2 : w15.cell? ⟨gb1, 2, none⟩ = some (.slice none 0 0) := (blk_cell BK1.out 2).trans rfl; have hfz18_0 := blk_frozen BK1.out 0; have hfz18_1 := blk_frozen BK1.out 1; have hfz18_2 := blk_frozen BK1.out 2))
    refine bodyPost_ret (results_cell_row rfl _ _ gb1 41 #[.bool (false), .slice Ao17 t8.length co17, .slice Ao16 t11.length co16] (0, 0) _ rfl (by (with_reducible repeat (first | refine blk_drewN ?_ _ | refine blk_drew ?_ | refine blk_alloc ?_ _)); refine blk_put (cs := #[.bool (false), .slice Ao17 t8.length co17, .slice none 0 0]) ?_ 2 _ rfl; (with_reducible repeat (first | refine blk_drewN ?_ _ | refine blk_drew ?_ | refine blk_alloc ?_ _)); refine blk_put (cs := #[.bool (false), .slice none 0 0, .slice none 0 0]) ?_ 1 _ rfl; (with_reducible repeat (first | refine blk_drewN ?_ _ | refine blk_drew ?_ | refine blk_alloc ?_ _)); refine blk_put (cs := #[.bool false, .slice none 0 0, .slice none 0 0]) ?_ 0 _ rfl; (with_reducible repeat (first | refine blk_drewN ?_ _ | refine blk_drew ?_ | refine blk_alloc ?_ _)); exact BK1.out) Tryz.underlying41 rfl (by kernel_rfl)) rfl ?_
    exact ⟨_, _, by first | rfl | (simp [errW_none, errW_some] <;> rfl) | (simp [*, errW_none, errW_some] <;> rfl), by (with_reducible repeat (first | apply Kd.V_alloc | apply Kd.V_drewN | apply Kd.V_drew)); exact Kd.V_mono (Kd.V_far (p := ⟨gb1, 2, none⟩) (Kd.V_far (p := ⟨gb1, 1, none⟩) (Kd.V_far (p := ⟨gb1, 0, none⟩) (Kd.V_mono HO10.out (fun k_ hk => (⟨hk, hk.2⟩ : _ ∧ k_ ≠ gb1))) (fun _ hk => hk.2) (.bool (false))) (fun _ hk => hk.2) (.slice Ao17 t8.length co17)) (fun _ hk => hk.2) (.slice Ao16 t11.length co16)) (fun _ hk => hk.1.1), by (with_reducible repeat (first | apply Kd.V_alloc | apply Kd.V_drewN | apply Kd.V_drew)); exact Kd.V_mono (Kd.V_far (p := ⟨gb1, 2, none⟩) (Kd.V_far (p := ⟨gb1, 1, none⟩) (Kd.V_far (p := ⟨gb1, 0, none⟩) (Kd.V_mono HO13.out (fun k_ hk => (⟨hk, hk.2⟩ : _ ∧ k_ ≠ gb1))) (fun _ hk => hk.2) (.bool (false))) (fun _ hk => hk.2) (.slice Ao17 t8.length co17)) (fun _ hk => hk.2) (.slice Ao16 t11.length co16)) (fun _ hk => hk.1.1), by repeat (first | (with_reducible first | exact HB.out | apply below_alloc | apply pw_below_drewN | apply below_drew1 | refine below_set ?_ GE1.out) | exact HB.out)⟩
end Go.Proofs.YtioofhilohmfbaaGreatDoor.P
end
section
set_option linter.unusedVariables false
namespace Go.Proofs.YtioofhilohmfbaaGreatDoor.P
open Go Go.RowKit Go.Proofs.YtioofhilohmfbaaGreatDoorW.PrintWords Go.Proofs.YtioofhilohmfbaaGreatDoorW.PrintLast Go.Proofs.YtioofhilohmfbaaGreatDoorW.PrintMore
/-! ### numbers as1 limbs -/
def L (v : Nat) : List Int := lim 64 (v : Int)
def big (k v : Nat) : Prop := (v : Int) < 4294967296 ^ k
theorem big_mono {j k v : Nat} (h : big j v) (hjk : j ≤ k) : big k v := Int.lt_of_lt_of_le h (pow_le hjk)
theorem big_le {k v u : Nat} (h : big k v) (hu : u ≤ v) : big k u := by unfold big at *; omega
theorem big_mul {j k a b : Nat} (ha : big j a) (hb : big k b) : big (j + k) (a * b) := by
  unfold big at *
  rw [Int.pow_add, Int.natCast_mul]
  exact Int.lt_of_le_of_lt (Int.mul_le_mul_of_nonneg_left (Int.le_of_lt hb) (Int.natCast_nonneg a)) (Int.mul_lt_mul_of_pos_right ha (pow_pos k))
theorem big_one (k : Nat) (hk : 0 < k) : big k 1 := by
  unfold big
  have := pow_le (show 1 ≤ k by omega)
  have h1 : (4294967296 : Int) ^ 1 = 4294967296 := by decide
  omega
theorem big_small {v : Nat} (k : Nat) (h : v < 4294967296) (hk : 0 < k) : big k v := by
  unfold big
  have := pow_le (show 1 ≤ k by omega)
  have h1 : (4294967296 : Int) ^ 1 = 4294967296 := by decide
  omega
theorem L_U (v : Nat) : U (L v) := lim_U _ _
theorem L_len (v : Nat) : (L v).length ≤ 64 := lim_len _ _
theorem L_lv {v : Nat} (h : big 64 v) : lv (L v) = v := lim_lv _ _ (Int.natCast_nonneg v) h
theorem L_Tr {v : Nat} (h : big 64 v) : Tr (L v) := lim_Tr _ _ (Int.natCast_nonneg v) h
theorem L_len_le {v k : Nat} (h : big 64 v) (hk : big k v) : (L v).length ≤ k := lim_len_le (Int.natCast_nonneg v) h hk
theorem L_of {v k : Nat} (h : big 64 v) (hk : big k v) : lim k (v : Int) = L v := lim_more (Int.natCast_nonneg v) hk h
theorem L_zero : L 0 = [] := lim_zero _
theorem L_ne {v : Nat} (h : big 64 v) (hv : 0 < v) : L v ≠ [] := fun e => by
  have := L_lv h
  rw [e, lv] at this
  omega
theorem L_big {v : Nat} (h : big 64 v) : big (L v).length v := by
  have := lv_lt (L_U v)
  rw [L_lv h] at this
  exact this
theorem L_pos {v : Nat} (h : big 64 v) : ((L v).length : Int) > 0 ↔ 0 < v := by
  constructor
  · intro hl
    rcases Nat.eq_zero_or_pos v with h0 | h0
    · rw [h0, L_zero] at hl; simp at hl
    · exact h0
  · intro hv
    have := L_ne h hv
    have : (L v).length ≠ 0 := fun e => this (List.eq_nil_of_length_eq_zero e)
    omega
theorem add32_val (x y c : Int) (hx : 0 ≤ x ∧ x < 4294967296) (hy : 0 ≤ y ∧ y < 4294967296) (hc : 0 ≤ c ∧ c ≤ 1) : bits_Add32.f x y c = some ((x + y + c) % 4294967296, (x + y + c) / 4294967296) := by
  unfold bits_Add32.f
  rw [wrapu64 x (by omega) (by omega), wrapu64 y (by omega) (by omega), wrapu64 c (by omega) (by omega), wrapu64 (x + y) (by omega) (by omega), wrapu64 (x + y + c) (by omega) (by omega)]
  congr 2
  omega
theorem plus_loop (a b : List Int) (hU : U a) (hV : U b) (hba : b.length ≤ a.length) (hn : a.length ≤ 70368744177664) :
    ∀ d i, i + d = a.length → ∀ (out : List Int) (c : Int), out.length = a.length + 1 → U out → (∀ p, i ≤ p → out.getD p 0 = 0) → 0 ≤ c ∧ c ≤ 1 →
      Ev (fun k => nat_plus.l0 k a b out c (a.length : Int) (i : Int)) (lim (a.length + 1) (lv out + 4294967296 ^ i * (lv (a.drop i) + lv (b.drop i) + c)))
  | 0, i, hi, out, c, hl, hO, hz, hc => by
    have h2 := trim_ev (a.length + 1) (out.set a.length c) (by rw [List.length_set]; exact hl) (by omega) (U_set hO _ _ hc.1 (by omega))
    rw [lv_set _ _ _ (by omega), hz a.length (by omega), Int.sub_zero] at h2
    rw [List.drop_of_length_le (by omega), List.drop_of_length_le (by omega), lv, show i = a.length by omega, Int.zero_add, Int.zero_add]
    refine Ev.step (f := fun k => (nat_trim.f k (out.set a.length c)).bind fun t14 => some t14) (fun k => ?_) (Ev.bind h2 (Ev.now _))
    simp only [nat_plus.l0]
    rw [if_neg (by omega), if_pos (by omega), if_pos (by omega), Int.toNat_natCast]
  | d + 1, i, hi, out, c, hl, hO, hz, hc => by
    have e2 : wrap64 ((i : Int) + 1) = ((i + 1 : Nat) : Int) := by unfold wrap64; omega
    have ai := U_get hU i
    have bi := U_get hV i
    have hs := add32_val (a.getD i 0) (b.getD i 0) c ai bi hc
    obtain ⟨x, hx⟩ : ∃ x, (a.getD i 0 + b.getD i 0 + c) % 4294967296 = x := ⟨_, rfl⟩
    obtain ⟨f, hf⟩ : ∃ f, (a.getD i 0 + b.getD i 0 + c) / 4294967296 = f := ⟨_, rfl⟩
    have hxf : a.getD i 0 + b.getD i 0 + c = x + 4294967296 * f ∧ 0 ≤ f ∧ f ≤ 1 ∧ 0 ≤ x ∧ x < 4294967296 := by omega
    rw [hx, hf] at hs
    have ih := plus_loop a b hU hV hba hn d (i + 1) (by omega) (out.set i x) f (by simp [hl]) (U_set hO _ _ (by omega) (by omega))
      (fun p hp => by rw [getD_set _ _ _ _ (by omega), if_neg (by omega)]; exact hz p (by omega)) ⟨hxf.2.1, hxf.2.2.1⟩
    have e : lv (out.set i x) + 4294967296 ^ (i + 1) * (lv (a.drop (i + 1)) + lv (b.drop (i + 1)) + f) = lv out + 4294967296 ^ i * (lv (a.drop i) + lv (b.drop i) + c) := by
      rw [lv_set _ _ _ (by omega), hz i (Nat.le_refl _), lv_drop_any a i, lv_drop_any b i, Int.pow_succ]
      clear ih hs hf hx
      generalize ((4294967296 : Int) ^ i) = p at *
      generalize lv (a.drop (i + 1)) = u at *
      generalize lv (b.drop (i + 1)) = v at *
      generalize a.getD i 0 = s at *
      generalize b.getD i 0 = t at *
      rw [show s + 4294967296 * u + (t + 4294967296 * v) + c = x + 4294967296 * (u + v + f) by omega, Int.sub_zero, Int.mul_assoc, Int.mul_add p x]
      omega
    rw [e] at ih
    refine Ev.step (fun k => ?_) ih
    have HS := Aside0.mk hs
    clear hs ih hx hf e
    simp only [nat_plus.l0, rd_nat, e2, Int.toNat_natCast]
    by_cases hb : i < b.length
    · rw [if_pos (by omega), if_pos (by omega), if_pos (by omega), if_pos (by omega), HS.out]
      simp only [Option.bind_some]
      rw [if_pos (by omega)]
    · have hz : b.getD i 0 = 0 := by rw [List.getD_eq_getElem?_getD, List.getElem?_eq_none (by omega)]; rfl
      have hs := HS.out
      rw [hz] at hs
      rw [if_pos (by omega), if_neg (by omega), if_pos (by omega), if_pos (by omega), hs]
      simp only [Option.bind_some]
      rw [if_pos (by omega)]
theorem plus_g (a b : List Int) (hU : U a) (hV : U b) (hba : b.length ≤ a.length) (hn : a.length < 70368744177664) : Ev (fun k => nat_plus.g k a b) (lim (a.length + 1) (lv a + lv b)) := by
  have e : wrap64 ((a.length : Int) + 1) = ((a.length + 1 : Nat) : Int) := by unfold wrap64; omega
  have h := plus_loop a b hU hV hba (by omega) a.length 0 (by omega) (List.replicate (a.length + 1) 0) 0 (by simp) (U_rep _) (fun p _ => getD_rep _ _) ⟨by decide, by decide⟩
  rw [lv_rep, List.drop_zero, List.drop_zero, Int.pow_zero, Int.one_mul, Int.add_zero, Int.zero_add] at h
  refine Ev.congr (fun k => ?_) h
  unfold nat_plus.g
  rw [e, if_pos (by omega), if_pos (by omega), Int.toNat_natCast]
  rfl
theorem plus_ev {a b : Nat} (ha : big 64 a) (hb : big 64 b) (hs : big 64 (a + b)) : Ev (fun k => nat_plus.f k (L a) (L b)) (L (a + b)) := by
  have hla := L_len a
  have hlb := L_len b
  have hv : ((a + b : Nat) : Int) = lv (L a) + lv (L b) := by rw [L_lv ha, L_lv hb]; omega
  have sz : ∀ x y : Nat, big 64 x → big 64 y → (L y).length ≤ (L x).length → big ((L x).length + 1) (x + y) := fun x y hx hy hl => by
    have h1 := L_big hx
    have h2 := big_mono (L_big hy) hl
    unfold big at *
    rw [Int.pow_succ]
    omega
  by_cases hl : (L a).length < (L b).length
  · have h := plus_g (L b) (L a) (L_U b) (L_U a) (by omega) (by omega)
    rw [Int.add_comm, ← hv, L_of hs (by have := sz b a hb ha (by omega); rwa [Nat.add_comm b a] at this)] at h
    refine Ev.congr (fun k => ?_) h
    unfold nat_plus.f
    rw [if_pos (by omega)]
  · have h := plus_g (L a) (L b) (L_U a) (L_U b) (by omega) (by omega)
    rw [← hv, L_of hs (sz a b ha hb (by omega))] at h
    refine Ev.congr (fun k => ?_) h
    unfold nat_plus.f
    rw [if_neg (by omega)]
theorem check_L {v : Nat} (h : big 64 v) : nat_Check.f (L v) = some 0 := by
  have hl := L_len v
  unfold nat_Check.f
  rw [if_neg (by omega)]
  by_cases h0 : ((L v).length : Int) > 0
  · obtain ⟨n, hn⟩ : ∃ n, (L v).length = n + 1 := ⟨(L v).length - 1, by omega⟩
    have hne := (Tr_last hn).1 (L_Tr h)
    have e0 : wrap64 (((L v).length : Int) - 1) = (n : Int) := by rw [hn]; unfold wrap64; omega
    rw [if_pos h0, e0, if_pos (by omega), if_pos (by omega), rd_nat, if_neg hne]
  · rw [if_neg h0]
theorem both_L {a b : Nat} (ha : big 64 a) (hb : big 64 b) : nat_both.f (L a) (L b) = some 0 := by
  unfold nat_both.f
  rw [check_L ha, Option.bind_some, if_pos rfl, check_L hb]
  rfl
theorem divOk_L {a b : Nat} (ha : big 64 a) (hb : big 64 b) (h0 : 0 < b) : divOk (L a) (L b) :=
  ⟨L_U a, L_Tr ha, L_U b, L_Tr hb, L_ne hb h0, by have := L_len a; omega, by have := L_len b; omega⟩
theorem divide_L {a b : Nat} (ha : big 64 a) (hb : big 64 b) (h0 : 0 < b) : nat_divide.f (L a) (L b) = some (L (a / b), L (a % b)) := by
  unfold nat_divide.f
  rw [if_pos (divOk_L ha hb h0), L_lv ha, L_lv hb, ← Int.natCast_ediv, ← Int.natCast_emod]
  have h1 : a / b ≤ a := Nat.div_le_self _ _
  have h2 : a % b < b := Nat.mod_lt _ h0
  rw [L_of (big_le ha h1) (big_le (L_big ha) h1), L_of (big_le hb (by omega)) (big_le (L_big hb) (by omega))]
theorem clone_L (v : Nat) : slices_Clone_uint32_uint32.f (L v) = some (L v) := by
  unfold slices_Clone_uint32_uint32.f
  rw [if_pos (by have := L_len v; omega)]
theorem gcd_loop : ∀ (b : Nat), ∀ a : Nat, big 64 a → big 64 b → Ev (fun k => nat_Gcd.l0 k (L a) (L b)) (L (Nat.gcd a b), 0) := by
  intro b
  induction b using Nat.strongRecOn with
  | _ b ih =>
    intro a ha hb
    rcases Nat.eq_zero_or_pos b with h0 | h0
    · subst h0
      refine Ev.at1 (fun k => ?_)
      simp only [nat_Gcd.l0]
      rw [L_zero, if_neg (by simp), Nat.gcd_zero_right]
    · have hm := Nat.mod_lt a h0
      have h := ih (a % b) hm b hb (big_le hb (by omega))
      rw [show Nat.gcd b (a % b) = Nat.gcd a b by rw [Nat.gcd_comm b, ← Nat.gcd_rec, Nat.gcd_comm]] at h
      refine Ev.step (fun k => ?_) h
      simp only [nat_Gcd.l0]
      rw [if_pos ((L_pos hb).2 h0), divide_L ha hb h0]
      rfl
theorem gcd_ev {a b : Nat} (ha : big 64 a) (hb : big 64 b) : Ev (fun k => nat_Gcd.f k (L a) (L b)) (L (Nat.gcd a b), 0) := by
  refine Ev.congr (fun k => ?_) (gcd_loop b a ha hb)
  unfold nat_Gcd.f
  rw [both_L ha hb, Option.bind_some, if_pos rfl, clone_L, clone_L]
  rfl
theorem div_L {a b : Nat} (ha : big 64 a) (hb : big 64 b) (h0 : 0 < b) : nat_Div.f (L a) (L b) = some (L (a / b), L (a % b), 0) := by
  unfold nat_Div.f
  have := (L_pos hb).2 h0
  rw [both_L ha hb, Option.bind_some, if_pos rfl, if_neg (by omega), divide_L ha hb h0]
  rfl
theorem times_L {a b : Nat} (ha : big 64 a) (hb : big 64 b) (hab : big 64 (a * b)) : Ev (fun k => nat_times.f k (L a) (L b)) (L (a * b)) := by
  have h := times_ev (L a) (L b) (L_U a) (L_U b) (by have := L_len a; have := L_len b; omega)
  rw [L_lv ha, L_lv hb, ← Int.natCast_mul, L_of hab (big_mul (L_big ha) (L_big hb))] at h
  exact h
theorem mul_L {a b : Nat} (ha : big 64 a) (hb : big 64 b) (hab : big 64 (a * b)) : Ev (fun k => nat_Mul.f k (L a) (L b)) (L (a * b), 0) := by
  refine Ev.congr (fun k => ?_) (Ev.bind (f := fun _ x => some (x, (0 : Int))) (times_L ha hb hab) (Ev.now _))
  unfold nat_Mul.f
  rw [both_L ha hb, Option.bind_some, if_pos rfl]
theorem of_L (n : Nat) (h : n < 18446744073709551616) : Ev (fun k => nat_Of.f k (n : Int)) (L n) := by
  have h2 := Of_ev (n : Int) (Int.natCast_nonneg n) (by omega)
  have hb : big 2 n := by
    unfold big
    have : (4294967296 : Int) ^ 2 = 18446744073709551616 := by decide
    omega
  rw [L_of (big_mono hb (by decide)) hb] at h2
  exact h2
theorem one_L : Ev (fun k => rat_one.f k) (L 1) := by
  have h := of_L 1 (by decide)
  exact Ev.bind h (Ev.now _)
/-! ### quotients -/
structure RatOk (neg : Bool) (n d : Nat) : Prop where
  hn : big 16 n
  hd : big 16 d
  pos : 0 < d
  cop : Nat.gcd n d = 1
  sgn : n = 0 → neg = false
/-- A number that may be, or none. -/
def RatSt (x : Bool) (y z : List Int) : Prop := (∃ n d, y = L n ∧ z = L d ∧ RatOk x n d) ∨ (x = false ∧ y = [] ∧ z = [])
/-- What an operation answers. -/
def RatRes (r : Bool × List Int × List Int × Int) : Prop := (r.2.2.2 = 0 ∧ ∃ n d, r.2.1 = L n ∧ r.2.2.1 = L d ∧ RatOk r.1 n d) ∨ (r.1 = false ∧ r.2.1 = [] ∧ r.2.2.1 = [] ∧ (r.2.2.2 = 2 ∨ r.2.2.2 = 20 ∨ r.2.2.2 = 21))
theorem RatRes.st {r : Bool × List Int × List Int × Int} (h : RatRes r) : RatSt r.1 r.2.1 r.2.2.1 := by
  rcases h with ⟨_, h⟩ | ⟨h1, h2, h3, _⟩
  · exact .inl h
  · exact .inr ⟨h1, h2, h3⟩
theorem RatRes.ne4 {r : Bool × List Int × List Int × Int} (h : RatRes r) : r.2.2.2 ≠ 4 := by
  rcases h with ⟨h, _⟩ | ⟨_, _, _, h⟩ <;> omega
theorem RatRes.nonneg {r : Bool × List Int × List Int × Int} (h : RatRes r) : r.2.2.2 = 0 ∨ r.2.2.2 = 2 ∨ r.2.2.2 = 20 ∨ r.2.2.2 = 21 := by
  rcases h with ⟨h, _⟩ | ⟨_, _, _, h⟩ <;> omega
def redV (neg : Bool) (a b : Nat) : Bool × List Int × List Int × Int :=
  if (L (a / Nat.gcd a b)).length > 16 ∨ (L (b / Nat.gcd a b)).length > 16 then (false, [], [], 20) else (neg && decide (0 < a / Nat.gcd a b), L (a / Nat.gcd a b), L (b / Nat.gcd a b), 0)
theorem redV_res (neg : Bool) (a b : Nat) (ha : big 64 a) (hb : big 64 b) (h0 : 0 < b) : RatRes (redV neg a b) := by
  have hg : 0 < Nat.gcd a b := Nat.gcd_pos_of_pos_right _ h0
  unfold redV
  split
  · exact .inr ⟨rfl, rfl, rfl, .inr (.inl rfl)⟩
  · rename_i h
    refine .inl ⟨rfl, _, _, rfl, rfl, ?_⟩
    have h1 := big_le ha (Nat.div_le_self a (Nat.gcd a b))
    have h2 := big_le hb (Nat.div_le_self b (Nat.gcd a b))
    refine ⟨big_mono (L_big h1) (by omega), big_mono (L_big h2) (by omega), Nat.div_pos (Nat.gcd_le_right _ h0) hg, Nat.coprime_div_gcd_div_gcd hg, fun e => ?_⟩
    rw [e]
    simp
theorem reduced_ev (neg : Bool) (a b : Nat) (ha : big 64 a) (hb : big 64 b) (h0 : 0 < b) : Ev (fun k => rat_reduced.f k neg (L a) (L b)) (redV neg a b) := by
  have hg : 0 < Nat.gcd a b := Nat.gcd_pos_of_pos_right _ h0
  have hgb : big 64 (Nat.gcd a b) := big_le hb (Nat.gcd_le_right _ h0)
  refine Ev.bind (gcd_ev ha hb) ⟨0, fun k _ => ?_⟩
  simp only [div_L ha hgb hg, div_L hb hgb hg, Option.bind_some, if_true]
  unfold redV
  have hp := L_pos (big_le ha (Nat.div_le_self a (Nat.gcd a b)))
  by_cases h1 : (L (a / Nat.gcd a b)).length > 16
  · rw [if_pos (show ((L (a / Nat.gcd a b)).length : Int) > 16 by omega), if_pos (Or.inl h1)]
  · by_cases h2 : (L (b / Nat.gcd a b)).length > 16
    · rw [if_neg (show ¬ ((L (a / Nat.gcd a b)).length : Int) > 16 by omega), if_pos (show ((L (b / Nat.gcd a b)).length : Int) > 16 by omega), if_pos (Or.inr h2)]
    · rw [if_neg (show ¬ ((L (a / Nat.gcd a b)).length : Int) > 16 by omega), if_neg (show ¬ ((L (b / Nat.gcd a b)).length : Int) > 16 by omega), if_neg (show ¬ ((L (a / Nat.gcd a b)).length > 16 ∨ (L (b / Nat.gcd a b)).length > 16) from fun h => h.elim h1 h2)]
      cases neg with
      | true => rw [if_pos rfl, Bool.true_and]; simp only [decide_eq_decide.2 hp]
      | false => rw [if_neg (show ¬ false = true by decide), Bool.false_and]
theorem new_ev (neg : Bool) (a b : Nat) (ha : big 32 a) (hb : big 32 b) (h0 : 0 < b) : Ev (fun k => rat_New.f k neg (L a) (L b)) (redV neg a b) := by
  have ha' := big_mono ha (show 32 ≤ 64 by decide)
  have hb' := big_mono hb (show 32 ≤ 64 by decide)
  have hl1 := L_len_le ha' ha
  have hl2 := L_len_le hb' hb
  have hp := (L_pos hb').2 h0
  have h := reduced_ev neg a b ha' hb' h0
  have h2 : Ev (fun k => rat_New.j0 k neg (L a) (L b) false) (redV neg a b) := by
    refine Ev.step (fun k => ?_) (Ev.bind (f := fun _ bt4 => some (bt4.1, bt4.2.1, bt4.2.2.1, bt4.2.2.2)) h (Ev.now _))
    simp only [rat_New.j0]
    rw [if_neg (by decide), if_neg (by omega)]
  refine Ev.congr (fun k => ?_) h2
  unfold rat_New.f
  rw [check_L ha', Option.bind_some, if_pos rfl, check_L hb', Option.bind_some, if_pos rfl, decide_eq_false (by unfold mx; omega)]
theorem L_one : L 1 = [1] := by simp [L, lim]
theorem equal_one : Ev (fun k => slices_Equal_uint32_uint32.f k (L 1) (L 1)) true := by
  rw [L_one]
  refine ⟨3, fun k hk => ?_⟩
  obtain ⟨m, rfl⟩ : ∃ m, k = m + 3 := ⟨k - 3, by omega⟩
  simp [slices_Equal_uint32_uint32.f, slices_Equal_uint32_uint32.l0, wrap64]
theorem Ev.eq {α : Type} {g : Nat → Option α} {a b : α} (h : Ev g a) (e : a = b) : Ev g b := e ▸ h
theorem rcheck_ok {neg : Bool} {n d : Nat} (h : RatOk neg n d) : Ev (fun k => rat_Check.f k neg (L n) (L d)) 0 := by
  have hn := big_mono h.hn (show 16 ≤ 64 by decide)
  have hd := big_mono h.hd (show 16 ≤ 64 by decide)
  have l1 := L_len_le hn h.hn
  have l2 := L_len_le hd h.hd
  have hp := (L_pos hd).2 h.pos
  have j2 : Ev (fun k => rat_Check.j2 k (L 1) false) 0 := by
    refine Ev.step (f := fun k => (rat_one.f k).bind fun t6 => (slices_Equal_uint32_uint32.f k (L 1) t6).bind fun t9 => if t9 = true then some 0 else some 2) (fun k => ?_) (Ev.bind (f := fun k t6 => (slices_Equal_uint32_uint32.f k (L 1) t6).bind fun t9 => if t9 = true then some 0 else some 2) one_L (Ev.bind (f := fun _ t9 => if t9 = true then some 0 else some 2) equal_one (Ev.now _)))
    simp only [rat_Check.j2]
    rw [if_neg (by decide)]
  have j1 : Ev (fun k => rat_Check.j1 k (L 1) false neg (L n) (L d)) 0 := by
    refine Ev.step (fun k => ?_) j2
    simp only [rat_Check.j1]
    rw [if_neg (by decide)]
    cases hg : neg with
    | false => rw [if_neg (by decide)]
    | true =>
      have hn0 : 0 < n := Nat.pos_of_ne_zero (fun e => by have := h.sgn e; rw [hg] at this; cases this)
      have := (L_pos hn).2 hn0
      rw [if_pos rfl, beq_eq_false_iff_ne.2 (by omega)]
  have hgc := gcd_ev hn hd
  rw [h.cop] at hgc
  have j0 : Ev (fun k => rat_Check.j0 k false neg (L n) (L d)) 0 := by
    refine Ev.step (f := fun k => (nat_Gcd.f k (L n) (L d)).bind fun bt2 => if bt2.2 = 0 then rat_Check.j1 k bt2.1 (((L d).length : Int) == 0) neg (L n) (L d) else rat_Check.j1 k bt2.1 true neg (L n) (L d)) (fun k => ?_) (Ev.bind hgc ?_)
    · simp only [rat_Check.j0]
      rw [if_neg (by decide)]
    · simp only [if_true]
      rw [beq_eq_false_iff_ne.2 (by omega)]
      exact j1
  refine Ev.congr (fun k => ?_) j0
  unfold rat_Check.f
  rw [if_neg (by omega), decide_eq_false (by omega)]
theorem rcheck_none : Ev (fun k => rat_Check.f k false ([] : List Int) ([] : List Int)) 2 := by
  have h0 : big 64 0 := big_small 64 (by decide) (by decide)
  have hgc := gcd_ev h0 h0
  rw [L_zero, Nat.gcd_zero_left, L_zero] at hgc
  have j1 : Ev (fun k => rat_Check.j1 k ([] : List Int) true false ([] : List Int) ([] : List Int)) 2 := Ev.at1 (fun k => by simp [rat_Check.j1])
  have j0 : Ev (fun k => rat_Check.j0 k false false ([] : List Int) ([] : List Int)) 2 := by
    refine Ev.step (f := fun k => (nat_Gcd.f k ([] : List Int) ([] : List Int)).bind fun bt2 => if bt2.2 = 0 then rat_Check.j1 k bt2.1 ((([] : List Int).length : Int) == 0) false ([] : List Int) ([] : List Int) else rat_Check.j1 k bt2.1 true false ([] : List Int) ([] : List Int)) (fun k => ?_) (Ev.bind hgc ?_)
    · simp only [rat_Check.j0]
      rw [if_neg (by decide)]
    · exact j1
  refine Ev.congr (fun k => ?_) j0
  unfold rat_Check.f
  rfl
theorem rcheck_st {x : Bool} {y z : List Int} (h : RatSt x y z) : (∃ n d, y = L n ∧ z = L d ∧ RatOk x n d ∧ Ev (fun k => rat_Check.f k x y z) 0) ∨ (x = false ∧ y = [] ∧ z = [] ∧ Ev (fun k => rat_Check.f k x y z) 2) := by
  rcases h with ⟨n, d, rfl, rfl, h⟩ | ⟨rfl, rfl, rfl⟩
  · exact .inl ⟨n, d, rfl, rfl, h, rcheck_ok h⟩
  · exact .inr ⟨rfl, rfl, rfl, rcheck_none⟩
theorem rboth_st {x x' : Bool} {y z y' z' : List Int} (h : RatSt x y z) (h' : RatSt x' y' z') :
    (∃ n d n' d', y = L n ∧ z = L d ∧ RatOk x n d ∧ y' = L n' ∧ z' = L d' ∧ RatOk x' n' d' ∧ Ev (fun k => rat_both.f k x y z x' y' z') 0) ∨ Ev (fun k => rat_both.f k x y z x' y' z') 2 := by
  rcases rcheck_st h with ⟨n, d, e1, e2, o, hc⟩ | ⟨_, _, _, hc⟩
  · rcases rcheck_st h' with ⟨n', d', e3, e4, o', hc'⟩ | ⟨_, _, _, hc'⟩
    · refine .inl ⟨n, d, n', d', e1, e2, o, e3, e4, o', ?_⟩
      exact Ev.bind (f := fun k t3 => if t3 = 0 then (rat_Check.f k x' y' z').bind fun t4 => some t4 else some t3) hc (Ev.bind hc' (Ev.now _))
    · exact .inr (Ev.bind (f := fun k t3 => if t3 = 0 then (rat_Check.f k x' y' z').bind fun t4 => some t4 else some t3) hc (Ev.bind hc' (Ev.now _)))
  · exact .inr (Ev.bind (f := fun k t3 => if t3 = 0 then (rat_Check.f k x' y' z').bind fun t4 => some t4 else some t3) hc (Ev.now _))
theorem product_ev {a b : Nat} (ha : big 32 a) (hb : big 32 b) : Ev (fun k => rat_product.f k [L a, L b]) (L (a * b)) := by
  have ha' := big_mono ha (show 32 ≤ 64 by decide)
  have hb' := big_mono hb (show 32 ≤ 64 by decide)
  have hab : big 64 (a * b) := big_mono (big_mul ha hb) (by decide)
  have s3 : Ev (fun k => rat_product.l0 k (L (a * b)) [L a, L b] 2 2) (L (a * b)) := Ev.at1 (fun k => by simp only [rat_product.l0]; rw [if_neg (by decide)])
  have s2 : Ev (fun k => rat_product.l0 k (L a) [L a, L b] 2 1) (L (a * b)) := by
    refine Ev.step (f := fun k => (nat_Mul.f k (L a) (L b)).bind fun bt5 => if bt5.2 = 0 then rat_product.l0 k bt5.1 [L a, L b] 2 2 else some []) (fun k => ?_) ?_
    · simp only [rat_product.l0]
      rw [if_pos (show (1 : Int) < 2 by decide), if_pos (show (0 : Int) ≤ 1 by decide), if_pos (show (1 : Int) < (([L a, L b] : List (List Int)).length : Int) by simp), show wrap64 (1 + 1) = 2 by unfold wrap64; omega]
      rfl
    · exact Ev.bind (f := fun k (bt5 : List Int × Int) => if bt5.2 = 0 then rat_product.l0 k bt5.1 [L a, L b] 2 2 else some []) (mul_L ha' hb' hab) (Ev.congr (fun k => if_pos rfl) s3)
  have s1 : Ev (fun k => rat_product.l0 k (L 1) [L a, L b] 2 0) (L (a * b)) := by
    have hm := mul_L (big_one 64 (by decide)) ha' (by rw [Nat.one_mul]; exact ha')
    rw [Nat.one_mul] at hm
    refine Ev.step (f := fun k => (nat_Mul.f k (L 1) (L a)).bind fun bt5 => if bt5.2 = 0 then rat_product.l0 k bt5.1 [L a, L b] 2 1 else some []) (fun k => ?_) ?_
    · simp only [rat_product.l0]
      rw [if_pos (show (0 : Int) < 2 by decide), if_pos (show (0 : Int) ≤ 0 by decide), if_pos (show (0 : Int) < (([L a, L b] : List (List Int)).length : Int) by simp), show wrap64 (0 + 1) = 1 by unfold wrap64; omega]
      rfl
    · exact Ev.bind (f := fun k (bt5 : List Int × Int) => if bt5.2 = 0 then rat_product.l0 k bt5.1 [L a, L b] 2 1 else some []) hm (Ev.congr (fun k => if_pos rfl) s2)
  exact Ev.bind (f := fun k t1 => rat_product.l0 k t1 [L a, L b] (([L a, L b] : List (List Int)).length : Int) 0) one_L s1
theorem minus_L {a b : Nat} (ha : big 64 a) (hb : big 64 b) (h : b ≤ a) : Ev (fun k => nat_minus.f k (L a) (L b)) (L (a - b)) := by
  have hl : (L b).length ≤ (L a).length := L_len_le hb (big_le (L_big ha) h)
  have h2 := minus_ev (L a) (L b) (L_U a) (L_U b) hl (by have := L_len a; omega) (by rw [L_lv ha, L_lv hb]; omega)
  rw [L_lv ha, L_lv hb, show (a : Int) - (b : Int) = ((a - b : Nat) : Int) by omega, L_of (big_le ha (by omega)) (big_le (L_big ha) (by omega))] at h2
  exact h2
theorem sum_ev (an bn : Bool) {a b : Nat} (ha : big 33 a) (hb : big 33 b) : ∃ bt c, Ev (fun k => rat_sum.f k an (L a) bn (L b)) bt ∧ bt.2 = L c ∧ big 64 c := by
  have ha' := big_mono ha (show 33 ≤ 64 by decide)
  have hb' := big_mono hb (show 33 ≤ 64 by decide)
  have hab : big 64 (a + b) := by
    have h1 : (4294967296 : Int) ^ 34 = 4294967296 ^ 33 * 4294967296 := Int.pow_succ _ _
    refine big_mono (j := 34) ?_ (by decide)
    unfold big at *
    rw [h1]
    omega
  by_cases he : (an == bn) = true
  · refine ⟨(an, L (a + b)), a + b, Ev.congr (fun k => ?_) (Ev.bind (f := fun _ t2 => some (an, t2)) (plus_ev ha' hb' hab) (Ev.now _)), rfl, hab⟩
    unfold rat_sum.f nat_Add.f
    rw [if_pos he, both_L ha' hb', Option.bind_some, if_pos rfl, Option.bind_assoc]
    rfl
  · have hc := compare_ev (L a) (L b) (by have := L_len a; omega) (by have := L_len b; omega) (L_U a) (L_Tr ha') (L_U b) (L_Tr hb')
    rw [L_lv ha', L_lv hb'] at hc
    have form : ∀ k, rat_sum.f k an (L a) bn (L b) = (nat_compare.f k (L a) (L b)).bind fun t5 => if t5 < 0 then (nat_Sub.f k (L b) (L a)).bind fun bt6 => some (bn, bt6.1) else (nat_Sub.f k (L a) (L b)).bind fun bt10 => some (an, bt10.1) := fun k => by
      unfold rat_sum.f nat_Cmp.f
      rw [if_neg he, both_L ha' hb', Option.bind_some, if_pos rfl, Option.bind_assoc]
      rfl
    have sub : ∀ (x y : Nat) (z : Bool), big 64 x → big 64 y → y ≤ x → Ev (fun k => (nat_Sub.f k (L x) (L y)).bind fun bt => some (z, bt.1)) (z, L (x - y)) := fun x y z hx hy hle => by
      have hc2 := compare_ev (L x) (L y) (by have := L_len x; omega) (by have := L_len y; omega) (L_U x) (L_Tr hx) (L_U y) (L_Tr hy)
      rw [L_lv hx, L_lv hy] at hc2
      have hge : ¬ cmpI (x : Int) (y : Int) < 0 := by
        have := cmp_ge (a := (x : Int)) (b := (y : Int)) (by omega)
        omega
      refine Ev.congr (fun k => ?_) (Ev.bind (f := fun k t2 => (if t2 < 0 then some (([] : List Int), (9 : Int)) else (nat_minus.f k (L x) (L y)).bind fun t3 => some (t3, 0)).bind fun bt => some (z, bt.1)) hc2 ?_)
      · unfold nat_Sub.f
        rw [both_L hx hy, Option.bind_some, if_pos rfl, Option.bind_assoc]
      · simp only [if_neg hge]
        refine Ev.congr (fun k => ?_) (Ev.bind (f := fun _ t3 => some (z, t3)) (minus_L hx hy hle) (Ev.now _))
        rw [Option.bind_assoc]
        rfl
    by_cases hlt : a < b
    · refine ⟨(bn, L (b - a)), b - a, Ev.congr form (Ev.bind hc ?_), rfl, big_le hb' (by omega)⟩
      have hm : cmpI (a : Int) (b : Int) < 0 := by unfold cmpI; rw [if_pos (by omega)]; omega
      simp only [if_pos hm]
      exact sub b a bn hb' ha' (by omega)
    · refine ⟨(an, L (a - b)), a - b, Ev.congr form (Ev.bind hc ?_), rfl, big_le ha' (by omega)⟩
      have hm : ¬ cmpI (a : Int) (b : Int) < 0 := by
        have := cmp_ge (a := (a : Int)) (b := (b : Int)) (by omega)
        omega
      simp only [if_neg hm]
      exact sub a b an ha' hb' (by omega)
theorem res_none (e : Int) (h : e = 2 ∨ e = 20 ∨ e = 21) : RatRes (false, [], [], e) := .inr ⟨rfl, rfl, rfl, h⟩
theorem rmul_ev {x x' : Bool} {y z y' z' : List Int} (h : RatSt x y z) (h' : RatSt x' y' z') : ∃ r, Ev (fun k => rat_Mul.f k x y z x' y' z') r ∧ RatRes r := by
  rcases rboth_st h h' with ⟨n, d, n', d', rfl, rfl, o, rfl, rfl, o', hc⟩ | hc
  · have m := fun {j : Nat} (h : big 16 j) => big_mono h (show 16 ≤ 32 by decide)
    have b1 : big 64 (n * n') := big_mono (big_mul o.hn o'.hn) (by decide)
    have b2 : big 64 (d * d') := big_mono (big_mul o.hd o'.hd) (by decide)
    refine ⟨_, Ev.bind hc ?_, redV_res (x != x') (n * n') (d * d') b1 b2 (Nat.mul_pos o.pos o'.pos)⟩
    simp only [if_true]
    exact Ev.bind (f := fun k t8 => (rat_product.f k [L d, L d']).bind fun t14 => (rat_reduced.f k (x != x') t8 t14).bind fun bt17 => some (bt17.1, bt17.2.1, bt17.2.2.1, bt17.2.2.2)) (product_ev (m o.hn) (m o'.hn))
      (Ev.bind (f := fun k t14 => (rat_reduced.f k (x != x') (L (n * n')) t14).bind fun bt17 => some (bt17.1, bt17.2.1, bt17.2.2.1, bt17.2.2.2)) (product_ev (m o.hd) (m o'.hd))
        (Ev.bind (f := fun _ bt17 => some (bt17.1, bt17.2.1, bt17.2.2.1, bt17.2.2.2)) (reduced_ev (x != x') (n * n') (d * d') b1 b2 (Nat.mul_pos o.pos o'.pos)) (Ev.now _)))
  · refine ⟨_, Ev.bind hc ?_, res_none 2 (.inl rfl)⟩
    exact Ev.now _
theorem rdiv_ev {x x' : Bool} {y z y' z' : List Int} (h : RatSt x y z) (h' : RatSt x' y' z') : ∃ r, Ev (fun k => rat_Div.f k x y z x' y' z') r ∧ RatRes r := by
  rcases rboth_st h h' with ⟨n, d, n', d', rfl, rfl, o, rfl, rfl, o', hc⟩ | hc
  · have m := fun {j : Nat} (h : big 16 j) => big_mono h (show 16 ≤ 32 by decide)
    have hn' := big_mono o'.hn (show 16 ≤ 64 by decide)
    have b1 : big 64 (n * d') := big_mono (big_mul o.hn o'.hd) (by decide)
    have b2 : big 64 (d * n') := big_mono (big_mul o.hd o'.hn) (by decide)
    rcases Nat.eq_zero_or_pos n' with h0 | h0
    · refine ⟨_, Ev.bind hc ?_, res_none 21 (.inr (.inr rfl))⟩
      have hz : ((L n').length : Int) = 0 := by rw [h0, L_zero]; rfl
      simp only [if_true, if_pos hz]
      exact Ev.now _
    · have hz := (L_pos hn').2 h0
      refine ⟨_, Ev.bind hc ?_, redV_res (x != x') (n * d') (d * n') b1 b2 (Nat.mul_pos o.pos h0)⟩
      simp only [if_true, if_neg (show ¬ ((L n').length : Int) = 0 by omega)]
      exact Ev.bind (f := fun k t8 => (rat_product.f k [L d, L n']).bind fun t14 => (rat_reduced.f k (x != x') t8 t14).bind fun bt17 => some (bt17.1, bt17.2.1, bt17.2.2.1, bt17.2.2.2)) (product_ev (m o.hn) (m o'.hd))
        (Ev.bind (f := fun k t14 => (rat_reduced.f k (x != x') (L (n * d')) t14).bind fun bt17 => some (bt17.1, bt17.2.1, bt17.2.2.1, bt17.2.2.2)) (product_ev (m o.hd) (m o'.hn))
          (Ev.bind (f := fun _ bt17 => some (bt17.1, bt17.2.1, bt17.2.2.1, bt17.2.2.2)) (reduced_ev (x != x') (n * d') (d * n') b1 b2 (Nat.mul_pos o.pos h0)) (Ev.now _)))
  · refine ⟨_, Ev.bind hc ?_, res_none 2 (.inl rfl)⟩
    exact Ev.now _
theorem radd_ev {x x' : Bool} {y z y' z' : List Int} (h : RatSt x y z) (h' : RatSt x' y' z') : ∃ r, Ev (fun k => rat_Add.f k x y z x' y' z') r ∧ RatRes r := by
  rcases rboth_st h h' with ⟨n, d, n', d', rfl, rfl, o, rfl, rfl, o', hc⟩ | hc
  · have m := fun {j : Nat} (h : big 16 j) => big_mono h (show 16 ≤ 32 by decide)
    have b1 : big 33 (n * d') := big_mono (big_mul o.hn o'.hd) (by decide)
    have b2 : big 33 (n' * d) := big_mono (big_mul o'.hn o.hd) (by decide)
    have b3 : big 64 (d * d') := big_mono (big_mul o.hd o'.hd) (by decide)
    obtain ⟨bt, c, hs, hbt, hcb⟩ := sum_ev x x' b1 b2
    have hr : Ev (fun k => rat_reduced.f k bt.1 bt.2 (L (d * d'))) (redV bt.1 c (d * d')) := by
      rw [hbt]
      exact reduced_ev bt.1 c (d * d') hcb b3 (Nat.mul_pos o.pos o'.pos)
    have h5 : Ev (fun k => (rat_product.f k [L d, L d']).bind fun t24 => (rat_reduced.f k bt.1 bt.2 t24).bind fun bt27 => some (bt27.1, bt27.2.1, bt27.2.2.1, bt27.2.2.2)) (redV bt.1 c (d * d')) :=
      Ev.bind (f := fun k t24 => (rat_reduced.f k bt.1 bt.2 t24).bind fun bt27 => some (bt27.1, bt27.2.1, bt27.2.2.1, bt27.2.2.2)) (product_ev (m o.hd) (m o'.hd)) (Ev.bind (f := fun _ bt27 => some (bt27.1, bt27.2.1, bt27.2.2.1, bt27.2.2.2)) hr (Ev.now _))
    have h4 : Ev (fun k => (rat_sum.f k x (L (n * d')) x' (L (n' * d))).bind fun bt17 => (rat_product.f k [L d, L d']).bind fun t24 => (rat_reduced.f k bt17.1 bt17.2 t24).bind fun bt27 => some (bt27.1, bt27.2.1, bt27.2.2.1, bt27.2.2.2)) (redV bt.1 c (d * d')) :=
      Ev.bind (g := fun k => rat_sum.f k x (L (n * d')) x' (L (n' * d))) (f := fun k (bt17 : Bool × List Int) => (rat_product.f k [L d, L d']).bind fun t24 => (rat_reduced.f k bt17.1 bt17.2 t24).bind fun bt27 => some (bt27.1, bt27.2.1, bt27.2.2.1, bt27.2.2.2)) hs h5
    have h3 : Ev (fun k => (rat_product.f k [L n', L d]).bind fun t14 => (rat_sum.f k x (L (n * d')) x' t14).bind fun bt17 => (rat_product.f k [L d, L d']).bind fun t24 => (rat_reduced.f k bt17.1 bt17.2 t24).bind fun bt27 => some (bt27.1, bt27.2.1, bt27.2.2.1, bt27.2.2.2)) (redV bt.1 c (d * d')) :=
      Ev.bind (g := fun k => rat_product.f k [L n', L d]) (f := fun k (t14 : List Int) => (rat_sum.f k x (L (n * d')) x' t14).bind fun bt17 => (rat_product.f k [L d, L d']).bind fun t24 => (rat_reduced.f k bt17.1 bt17.2 t24).bind fun bt27 => some (bt27.1, bt27.2.1, bt27.2.2.1, bt27.2.2.2)) (product_ev (m o'.hn) (m o.hd)) h4
    have h2 : Ev (fun k => (rat_product.f k [L n, L d']).bind fun t8 => (rat_product.f k [L n', L d]).bind fun t14 => (rat_sum.f k x t8 x' t14).bind fun bt17 => (rat_product.f k [L d, L d']).bind fun t24 => (rat_reduced.f k bt17.1 bt17.2 t24).bind fun bt27 => some (bt27.1, bt27.2.1, bt27.2.2.1, bt27.2.2.2)) (redV bt.1 c (d * d')) :=
      Ev.bind (g := fun k => rat_product.f k [L n, L d']) (f := fun k (t8 : List Int) => (rat_product.f k [L n', L d]).bind fun t14 => (rat_sum.f k x t8 x' t14).bind fun bt17 => (rat_product.f k [L d, L d']).bind fun t24 => (rat_reduced.f k bt17.1 bt17.2 t24).bind fun bt27 => some (bt27.1, bt27.2.1, bt27.2.2.1, bt27.2.2.2)) (product_ev (m o.hn) (m o'.hd)) h3
    refine ⟨_, Ev.bind hc ?_, redV_res bt.1 c (d * d') hcb b3 (Nat.mul_pos o.pos o'.pos)⟩
    simp only [if_true]
    exact h2
  · refine ⟨_, Ev.bind hc ?_, res_none 2 (.inl rfl)⟩
    exact Ev.now _
theorem rof_ev (n : Nat) (h : n < 9223372036854775808) : Ev (fun k => rat_Of.f k (n : Int)) (false, L n, L 1) ∧ RatOk false n 1 := by
  constructor
  · refine Ev.congr (fun k => ?_) (Ev.bind (f := fun k t8 => (rat_one.f k).bind fun t11 => some (false, t8, t11)) (of_L n (by omega)) (Ev.bind (f := fun _ t11 => some (false, L n, t11)) one_L (Ev.now _)))
    unfold rat_Of.f
    rw [if_neg (by omega), wrapu64 _ (by omega) (by omega), decide_eq_false (by omega)]
  · refine ⟨?_, big_one 16 (by decide), by decide, Nat.gcd_one_right n, fun _ => rfl⟩
    refine big_mono (j := 2) ?_ (by decide)
    unfold big
    have : (4294967296 : Int) ^ 2 = 18446744073709551616 := by decide
    omega
end Go.Proofs.YtioofhilohmfbaaGreatDoor.P
end
section
set_option linter.unusedVariables false
namespace Go.Proofs.YtioofhilohmfbaaGreatDoor.P
open Go Go.RowKit Go.Proofs.YtioofhilohmfbaaGreatDoorW.PrintWords
def cutOk (c : ByteArray) : Prop := c.size < 4294967281 ∧ c.data.toList.all (fun b => decide (b.toNat < 128)) = true
instance (c : ByteArray) : Decidable (cutOk c) := inferInstanceAs (Decidable (_ ∧ _))
theorem cutOk.at {c : ByteArray} (h : cutOk c) : ∀ (j : Nat) b, c.data.toList[j]? = some b → b.toNat < 128 := fun j b hj => by
  have := List.all_eq_true.1 h.2 b (List.mem_of_getElem? hj)
  simpa using this
def strings_Trim.f (a0 a1 : ByteArray) : Option ByteArray := if a0.size ≤ 9223372036854775807 ∧ cutOk a1 then some ⟨(Lib.trimS a0.data.toList a1.data.toList).toArray⟩ else none
theorem strings_Trim.calls (a0 a1 : ByteArray) (r : ByteArray) (w : World) (h : strings_Trim.f a0 a1 = some r) :
    Calls Tryz.prog 16 #[.string a0, .string a1] w fun e w' => e = .returned (.string r) ∧ Below w.heap.size w w' := by
  unfold strings_Trim.f at h
  by_cases hc : a0.size ≤ 9223372036854775807 ∧ cutOk a1
  case neg => rw [if_neg hc] at h; cases h
  rw [if_pos hc] at h
  injection h with h
  subst h
  exact Any.strings_Trim_laid (ρ := Tryz.lays160_ren) Tryz.lays160 (by kernel_rfl) a0 a1 w hc.1 hc.2.1 hc.2.at
def strings_TrimRight.f (a0 a1 : ByteArray) : Option ByteArray := if a0.size ≤ 9223372036854775807 ∧ cutOk a1 then some ⟨(Lib.trimRightS a0.data.toList a1.data.toList).toArray⟩ else none
theorem strings_TrimRight.calls (a0 a1 : ByteArray) (r : ByteArray) (w : World) (h : strings_TrimRight.f a0 a1 = some r) :
    Calls Tryz.prog 13 #[.string a0, .string a1] w fun e w' => e = .returned (.string r) ∧ Below w.heap.size w w' := by
  unfold strings_TrimRight.f at h
  by_cases hc : a0.size ≤ 9223372036854775807 ∧ cutOk a1
  case neg => rw [if_neg hc] at h; cases h
  rw [if_pos hc] at h
  injection h with h
  subst h
  exact Any.strings_TrimRight_laid (ρ := Tryz.lays162_ren) Tryz.lays162 (by kernel_rfl) a0 a1 w hc.1 hc.2.1 hc.2.at
def strings_TrimLeft.f (a0 a1 : ByteArray) : Option ByteArray := if cutOk a1 then some ⟨(Lib.trimLeftS a0.data.toList a1.data.toList).toArray⟩ else none
theorem strings_TrimLeft.calls (a0 a1 : ByteArray) (r : ByteArray) (w : World) (h : strings_TrimLeft.f a0 a1 = some r) :
    Calls Tryz.prog 94 #[.string a0, .string a1] w fun e w' => e = .returned (.string r) ∧ Below w.heap.size w w' := by
  unfold strings_TrimLeft.f at h
  by_cases hc : cutOk a1
  case neg => rw [if_neg hc] at h; cases h
  rw [if_pos hc] at h
  injection h with h
  subst h
  exact Any.strings_TrimLeft_laid (ρ := Tryz.lays161_ren) Tryz.lays161 (by kernel_rfl) a0 a1 w hc.1 hc.at
/-- Does a text hold a text of one byte? -/
def strings_Contains.f (a0 a1 : ByteArray) : Option Bool := match a1.data.toList with
  | [c] => some (decide (0 ≤ Lib.indexByte a0.data.toList c))
  | _ => none
theorem strings_Contains.calls (a0 a1 : ByteArray) (r : Bool) (w : World) (h : strings_Contains.f a0 a1 = some r) :
    Calls Tryz.prog 134 #[.string a0, .string a1] w fun e w' => e = .returned (.bool r) ∧ Below w.heap.size w w' := by
  unfold strings_Contains.f at h
  split at h
  · rename_i c hc
    injection h with h
    subst h
    have e1 : a1 = ⟨#[c]⟩ := by
      cases a1 with | mk d => cases d with | mk l => simp only at hc; rw [hc]
    rw [e1]
    refine (Tryz.strings_Contains_one a0 c w).mono ?_
    rintro e w' ⟨he, rfl⟩
    exact ⟨he, Below.refl _ _⟩
  · cases h
end Go.Proofs.YtioofhilohmfbaaGreatDoor.P
end
section
namespace Go.Proofs.YtioofhilohmfbaaGreatDoor.P
open Go.RowKit Go.Proofs.YtioofhilohmfbaaGreatDoorW.PrintWords Go.Proofs.YtioofhilohmfbaaGreatDoorW.PrintLast Go.Proofs.YtioofhilohmfbaaGreatDoorW.PrintMore
attribute [local go_sem] max2_int min2_int max_two min_two max_three min_three max_four min_four
set_option linter.unusedVariables false
set_option linter.unusedSimpArgs false
theorem u64_u8_DoorFNatRead (x : Int) : IntKind.u64.wrap (IntKind.u8.wrap x) = x % 256 := by rw [IntKind.wrap_u8, IntKind.wrap_u64]; omega
/-! ### nat_Read: function 95 -/
mutual
def nat_Read.j0 : Nat → ByteArray → Option (List Int × Int)
  | 0, _ => none
  | k + 1, x0 => nat_Read.l0 k x0 ([] : List Int) (x0.size : Int) 0
def nat_Read.l0 : Nat → ByteArray → List Int → Int → Int → Option (List Int × Int)
  | 0, _, _, _, _ => none
  | k + 1, x0, x4, x29, x30 => if x30 < x29 then (if 0 ≤ x30 then (if x30 ≤ (wrap64 (x30 + 1)) then (if (wrap64 (x30 + 1)) ≤ (x0.size : Int) then ((strings_Contains.f (⟨#[48, 49, 50, 51, 52, 53, 54, 55, 56, 57]⟩ : ByteArray) (x0.extract (x30 : Int).toNat ((wrap64 (x30 + 1)) : Int).toNat)).bind fun t3 => (if t3 = true then ((nat_Of.f k 10).bind fun t4 => ((nat_times.f k x4 t4).bind fun t7 => (if x30 < (x0.size : Int) then ((nat_Of.f k (((bt x0 x30) - 48) % 256)).bind fun t10 => ((nat_plus.f k t7 t10).bind fun t13 => (nat_Read.l0 k x0 t13 x29 (wrap64 (x30 + 1))))) else (none)))) else (some (([] : List Int), 4)))) else (none)) else (none)) else (none)) else (some (x4, 0))
end
def nat_Read.f (k : Nat) (a0 : ByteArray) : Option (List Int × Int) := if (a0.size : Int) > 600 then (some (([] : List Int), 5)) else (if a0.toList = ([] : List UInt8) then (some (([] : List Int), 4)) else (if (a0.size : Int) > 1 then (if 0 < (a0.size : Int) then (if (bt a0 0) = 48 then (some (([] : List Int), 4)) else ((strings_Trim.f a0 (⟨#[48, 49, 50, 51, 52, 53, 54, 55, 56, 57]⟩ : ByteArray)).bind fun t1 => (if t1.toList = ([] : List UInt8) then (nat_Read.j0 k a0) else (some (([] : List Int), 4))))) else (none)) else ((strings_Trim.f a0 (⟨#[48, 49, 50, 51, 52, 53, 54, 55, 56, 57]⟩ : ByteArray)).bind fun t2 => (if t2.toList = ([] : List UInt8) then (nat_Read.j0 k a0) else (some (([] : List Int), 4))))))
theorem nat_Read.mono_l : ∀ k, (∀ y0, LeO (nat_Read.j0 k y0) (nat_Read.j0 (k + 1) y0)) ∧ (∀ y0 y1 y2 y3, LeO (nat_Read.l0 k y0 y1 y2 y3) (nat_Read.l0 (k + 1) y0 y1 y2 y3))
  | 0 => ⟨fun _ r h => by simp [nat_Read.j0] at h, fun _ _ _ _ r h => by simp [nat_Read.l0] at h⟩
  | k + 1 => by
    obtain ⟨ih0, ih1⟩ := nat_Read.mono_l k
    refine ⟨?_, ?_⟩
    · intro y0
      unfold nat_Read.j0
      repeat' first
      | (with_reducible exact ih0 _)
      | (with_reducible exact ih1 _ _ _ _)
      | (with_reducible exact nat_Of.mono _ _)
      | (with_reducible exact nat_plus.mono _ _ _)
      | (with_reducible exact nat_times.mono _ _ _)
      | (with_reducible exact LeO.refl _)
      | (with_reducible exact LeO.none _)
      | (with_reducible refine LeO.ite ?_ ?_)
      | (with_reducible refine LeO.bind ?_ (fun _ => ?_))
      | exact ih0 _
      | exact ih1 _ _ _ _
      | exact nat_Of.mono _ _
      | exact nat_plus.mono _ _ _
      | exact nat_times.mono _ _ _
      | exact LeO.none _
      | refine LeO.ite ?_ ?_
      | refine LeO.bind ?_ (fun _ => ?_)
    · intro y0 y1 y2 y3
      unfold nat_Read.l0
      repeat' first
      | (with_reducible exact ih0 _)
      | (with_reducible exact ih1 _ _ _ _)
      | (with_reducible exact nat_Of.mono _ _)
      | (with_reducible exact nat_plus.mono _ _ _)
      | (with_reducible exact nat_times.mono _ _ _)
      | (with_reducible exact LeO.refl _)
      | (with_reducible exact LeO.none _)
      | (with_reducible refine LeO.ite ?_ ?_)
      | (with_reducible refine LeO.bind ?_ (fun _ => ?_))
      | exact ih0 _
      | exact ih1 _ _ _ _
      | exact nat_Of.mono _ _
      | exact nat_plus.mono _ _ _
      | exact nat_times.mono _ _ _
      | exact LeO.none _
      | refine LeO.ite ?_ ?_
      | refine LeO.bind ?_ (fun _ => ?_)
theorem nat_Read.mono : ∀ a0 k, LeO (nat_Read.f k a0) (nat_Read.f (k + 1) a0) := by
  intro a0 k
  obtain ⟨ih0, ih1⟩ := nat_Read.mono_l k
  unfold nat_Read.f
  repeat' first
      | (with_reducible exact ih0 _)
      | (with_reducible exact ih1 _ _ _ _)
      | (with_reducible exact nat_Of.mono _ _)
      | (with_reducible exact nat_plus.mono _ _ _)
      | (with_reducible exact nat_times.mono _ _ _)
      | (with_reducible exact LeO.refl _)
      | (with_reducible exact LeO.none _)
      | (with_reducible refine LeO.ite ?_ ?_)
      | (with_reducible refine LeO.bind ?_ (fun _ => ?_))
      | exact ih0 _
      | exact ih1 _ _ _ _
      | exact nat_Of.mono _ _
      | exact nat_plus.mono _ _ _
      | exact nat_times.mono _ _ _
      | exact LeO.none _
      | refine LeO.ite ?_ ?_
      | refine LeO.bind ?_ (fun _ => ?_)
def nat_Read.T11 : Bool × List (List Nat × List Nat) := (true, [([], []), ([], []), ([0, 1, 1], [0, 1]), ([], []), ([], []), ([3, 4], [3, 4]), ([5], [5]), ([6], [6]), ([7, 2], [7]), ([2, 8, 8], [2, 8]), ([9, 9, 0, 1, 2, 3, 4, 5, 6, 7, 8, 9], [0, 9])])
def nat_Read.B11 : List Nat := [0, 0, 3, 0, 0, 24, 56, 120, 255, 511, 1023]
theorem nat_Read.tab11 : rtab .any (opsOf Tryz.f95 11) = nat_Read.T11 := by kernel_rfl
theorem nat_Read.bits11 : waitsOk nat_Read.T11.2 nat_Read.B11 = true := by kernel_rfl
set_option maxHeartbeats 8000000 in
set_option maxRecDepth 100000 in
theorem nat_Read.calls (k : Nat) (a0 : ByteArray) (r1 : List Int) (r2 : Int) (w : World) (h : nat_Read.f k a0 = some (r1, r2)) :
    Calls Tryz.prog 95 #[.string a0] w fun e w' => ∃ v0_ : Value, e = .returned (.tuple #[v0_, .int .i64 r2]) ∧ Kd.V (Kd.int .u32) 109 w' w.heap.size (fun k_ => (w.heap.size ≤ k_)) v0_ r1 ∧ Below w.heap.size w w' := by
  have HB := Aside0.mk (Below.refl w.heap.size w)
  have H : (if (a0.size : Int) > 600 then (some (([] : List Int), 5)) else (if a0.toList = ([] : List UInt8) then (some (([] : List Int), 4)) else (if (a0.size : Int) > 1 then (if 0 < (a0.size : Int) then (if (bt a0 0) = 48 then (some (([] : List Int), 4)) else ((strings_Trim.f a0 (⟨#[48, 49, 50, 51, 52, 53, 54, 55, 56, 57]⟩ : ByteArray)).bind fun t1 => (if t1.toList = ([] : List UInt8) then (nat_Read.j0 k a0) else (some (([] : List Int), 4))))) else (none)) else ((strings_Trim.f a0 (⟨#[48, 49, 50, 51, 52, 53, 54, 55, 56, 57]⟩ : ByteArray)).bind fun t2 => (if t2.toList = ([] : List UInt8) then (nat_Read.j0 k a0) else (some (([] : List Int), 4))))))) = some (r1, r2) := h
  clear h
  have HC2 := Aside0.mk H
  clear H
  go_enter Tryz.func95, Tryz.ntmps95
  go_upto_block 0 with (fail)
  go_cut [] (fun wc => ∃ (kq : Nat), Aside0 (nat_Read.j0 kq a0 = some (r1, r2)) ∧ Aside0 (kq ≤ k) ∧ Aside0 (Below w.heap.size w wc))
  case first =>
    have H := HC2.out
    clear HC2
    by_cases c3 : (a0.size : Int) > 600
    · rw [if_pos c3] at H
      have c3b0 : decide (600 < (a0.size : Int)) = true := decide_eq_true c3
      have c3b1 : decide (600 < a0.size) = true := decide_eq_true (by omega)
      clear c3
      (first | rw [c3b0] | (simp only [i64_w, i32_w]; rw [c3b0]) | skip)
      simp only [Option.some.injEq, Prod.mk.injEq] at H
      obtain ⟨rfl, rfl⟩ := H
      go_wp2
      go_ret2
      exact ⟨_, by first | rfl | (simp [errW_none, errW_some] <;> rfl) | (simp [*, errW_none, errW_some] <;> rfl), (Kd.V_nil _ _ _ _ _), by exact lc HB.out⟩
    · rw [if_neg c3] at H
      have c3b0 : decide (600 < (a0.size : Int)) = false := decide_eq_false c3
      have c3b1 : decide (600 < a0.size) = false := decide_eq_false (by omega)
      clear c3
      (first | rw [c3b0] | (simp only [i64_w, i32_w]; rw [c3b0]) | skip)
      by_cases c4 : a0.toList = ([] : List UInt8)
      · rw [if_pos c4] at H
        have c4b0 : (a0.toList == ([] : List UInt8)) = true := beq_iff_eq.mpr c4
        have c4b1 : (a0.toList != ([] : List UInt8)) = false := bne_eq_false_iff_eq.mpr c4
        clear c4
        simp only [Option.some.injEq, Prod.mk.injEq] at H
        obtain ⟨rfl, rfl⟩ := H
        go_wp2
        go_ret2
        exact ⟨_, by first | rfl | (simp [errW_none, errW_some] <;> rfl) | (simp [*, errW_none, errW_some] <;> rfl), (Kd.V_nil _ _ _ _ _), by exact lc HB.out⟩
      · rw [if_neg c4] at H
        have c4b0 : (a0.toList == ([] : List UInt8)) = false := beq_eq_false_iff_ne.mpr c4
        have c4b1 : (a0.toList != ([] : List UInt8)) = true := bne_iff_ne.mpr c4
        by_cases c5 : (a0.size : Int) > 1
        · rw [if_pos c5] at H
          have c5b0 : decide (1 < (a0.size : Int)) = true := decide_eq_true c5
          have c5b1 : decide (1 < a0.size) = true := decide_eq_true (by omega)
          clear c5
          by_cases c6 : 0 < (a0.size : Int)
          · rw [if_pos c6] at H
            have c6b0 : decide (0 < (a0.size : Int)) = true := decide_eq_true c6
            have c6b1 : decide (0 < a0.size) = true := decide_eq_true (by omega)
            clear c6
            by_cases c8 : (bt a0 0) = 48
            · rw [if_pos c8] at H
              have c8b0 : ((bt a0 0) == 48) = true := beq_iff_eq.mpr c8
              have c8b1 : ((bt a0 0) != 48) = false := bne_eq_false_iff_eq.mpr c8
              clear c8
              simp only [Option.some.injEq, Prod.mk.injEq] at H
              obtain ⟨rfl, rfl⟩ := H
              have p7 : 0 ≤ (0 : Int) := (by omega)
              have q7 : 0 < a0.size := (by have : (0 : Int) < (a0.size : Int) := of_decide_eq_true (by first | (with_reducible assumption) | assumption); omega)
              have hx7 : ∀ h : 0 < a0.size, ((a0[0]'h).toNat : Int) = bt a0 0 := bt_at a0 0
              clear p7
              have qi7 : (0 < (a0.size : Int)) = True := eq_true (of_decide_eq_true (by first | (with_reducible assumption) | assumption))
              replace q7 := eq_true q7
              go_wp2
              go_ret2
              exact ⟨_, by first | rfl | (simp [errW_none, errW_some] <;> rfl) | (simp [*, errW_none, errW_some] <;> rfl), (Kd.V_nil _ _ _ _ _), by exact lc HB.out⟩
            · rw [if_neg c8] at H
              have c8b0 : ((bt a0 0) == 48) = false := beq_eq_false_iff_ne.mpr c8
              have c8b1 : ((bt a0 0) != 48) = true := bne_iff_ne.mpr c8
              replace H := Option.bind_eq_some_iff.mp H
              obtain ⟨t1, A90, H⟩ := H
              replace H : (if t1.toList = ([] : List UInt8) then (nat_Read.j0 k a0) else (some (([] : List Int), 4))) = some (r1, r2) := H
              have A9 := Aside0.mk A90
              clear A90
              by_cases c10 : t1.toList = ([] : List UInt8)
              · rw [if_pos c10] at H
                have c10b0 : (t1.toList == ([] : List UInt8)) = true := beq_iff_eq.mpr c10
                have c10b1 : (t1.toList != ([] : List UInt8)) = false := bne_eq_false_iff_eq.mpr c10
                clear c10
                have H' := Aside0.mk H
                clear H
                have p7 : 0 ≤ (0 : Int) := (by omega)
                have q7 : 0 < a0.size := (by have : (0 : Int) < (a0.size : Int) := of_decide_eq_true (by first | (with_reducible assumption) | assumption); omega)
                have hx7 : ∀ h : 0 < a0.size, ((a0[0]'h).toNat : Int) = bt a0 0 := bt_at a0 0
                clear p7
                have qi7 : (0 < (a0.size : Int)) = True := eq_true (of_decide_eq_true (by first | (with_reducible assumption) | assumption))
                replace q7 := eq_true q7
                go_wp2_with (first | (go_at_call 16; (with_reducible refine (strings_Trim.calls a0 (⟨#[48, 49, 50, 51, 52, 53, 54, 55, 56, 57]⟩ : ByteArray) t1 _ A9.out).mono ?_); rintro e w11 ⟨rfl, hb⟩; have n0_ := Aside0.mk (below_step (lc HB.out) hb); clear HB; have HB := n0_; clear n0_; (try clear hb); (try clear hb2); (try clear hk); (try clear hi)))
                go_meet
                case rel => exact ⟨_, H', ⟨by first | omega | exact Nat.le_refl _⟩, ⟨by exact lc HB.out⟩⟩
              · rw [if_neg c10] at H
                have c10b0 : (t1.toList == ([] : List UInt8)) = false := beq_eq_false_iff_ne.mpr c10
                have c10b1 : (t1.toList != ([] : List UInt8)) = true := bne_iff_ne.mpr c10
                simp only [Option.some.injEq, Prod.mk.injEq] at H
                obtain ⟨rfl, rfl⟩ := H
                have p7 : 0 ≤ (0 : Int) := (by omega)
                have q7 : 0 < a0.size := (by have : (0 : Int) < (a0.size : Int) := of_decide_eq_true (by first | (with_reducible assumption) | assumption); omega)
                have hx7 : ∀ h : 0 < a0.size, ((a0[0]'h).toNat : Int) = bt a0 0 := bt_at a0 0
                clear p7
                have qi7 : (0 < (a0.size : Int)) = True := eq_true (of_decide_eq_true (by first | (with_reducible assumption) | assumption))
                replace q7 := eq_true q7
                go_wp2_with (first | (go_at_call 16; (with_reducible refine (strings_Trim.calls a0 (⟨#[48, 49, 50, 51, 52, 53, 54, 55, 56, 57]⟩ : ByteArray) t1 _ A9.out).mono ?_); rintro e w12 ⟨rfl, hb⟩; have n0_ := Aside0.mk (below_step (lc HB.out) hb); clear HB; have HB := n0_; clear n0_; (try clear hb); (try clear hb2); (try clear hk); (try clear hi)))
                go_ret2
                exact ⟨_, by first | rfl | (simp [errW_none, errW_some] <;> rfl) | (simp [*, errW_none, errW_some] <;> rfl), (Kd.V_nil _ _ _ _ _), by exact lc HB.out⟩
          · rw [if_neg c6] at H
            exact absurd H (by simp)
        · rw [if_neg c5] at H
          have c5b0 : decide (1 < (a0.size : Int)) = false := decide_eq_false c5
          have c5b1 : decide (1 < a0.size) = false := decide_eq_false (by omega)
          clear c5
          replace H := Option.bind_eq_some_iff.mp H
          obtain ⟨t2, A130, H⟩ := H
          replace H : (if t2.toList = ([] : List UInt8) then (nat_Read.j0 k a0) else (some (([] : List Int), 4))) = some (r1, r2) := H
          have A13 := Aside0.mk A130
          clear A130
          by_cases c14 : t2.toList = ([] : List UInt8)
          · rw [if_pos c14] at H
            have c14b0 : (t2.toList == ([] : List UInt8)) = true := beq_iff_eq.mpr c14
            have c14b1 : (t2.toList != ([] : List UInt8)) = false := bne_eq_false_iff_eq.mpr c14
            clear c14
            have H' := Aside0.mk H
            clear H
            go_wp2_with (first | (go_at_call 16; (with_reducible refine (strings_Trim.calls a0 (⟨#[48, 49, 50, 51, 52, 53, 54, 55, 56, 57]⟩ : ByteArray) t2 _ A13.out).mono ?_); rintro e w15 ⟨rfl, hb⟩; have n0_ := Aside0.mk (below_step (lc HB.out) hb); clear HB; have HB := n0_; clear n0_; (try clear hb); (try clear hb2); (try clear hk); (try clear hi)))
            go_meet
            case rel => exact ⟨_, H', ⟨by first | omega | exact Nat.le_refl _⟩, ⟨by exact lc HB.out⟩⟩
          · rw [if_neg c14] at H
            have c14b0 : (t2.toList == ([] : List UInt8)) = false := beq_eq_false_iff_ne.mpr c14
            have c14b1 : (t2.toList != ([] : List UInt8)) = true := bne_iff_ne.mpr c14
            simp only [Option.some.injEq, Prod.mk.injEq] at H
            obtain ⟨rfl, rfl⟩ := H
            go_wp2_with (first | (go_at_call 16; (with_reducible refine (strings_Trim.calls a0 (⟨#[48, 49, 50, 51, 52, 53, 54, 55, 56, 57]⟩ : ByteArray) t2 _ A13.out).mono ?_); rintro e w16 ⟨rfl, hb⟩; have n0_ := Aside0.mk (below_step (lc HB.out) hb); clear HB; have HB := n0_; clear n0_; (try clear hb); (try clear hb2); (try clear hk); (try clear hi)))
            go_ret2
            exact ⟨_, by first | rfl | (simp [errW_none, errW_some] <;> rfl) | (simp [*, errW_none, errW_some] <;> rfl), (Kd.V_nil _ _ _ _ _), by exact lc HB.out⟩
  case rest =>
    clear HC2
    try clear c1
    try clear p2
    try clear c3
    try clear c3b0
    try clear c3b1
    try clear c4
    try clear c4b0
    try clear c4b1
    try clear c5
    try clear c5b0
    try clear c5b1
    try clear c6
    try clear c6b0
    try clear c6b1
    try clear p7
    try clear q7
    try clear hx7
    try clear qi7
    try clear c8
    try clear c8b0
    try clear c8b1
    try clear c9
    try clear c10
    try clear c10b0
    try clear c10b1
    try clear c14
    try clear c14b0
    try clear c14b1
    try clear p7
    try clear q7
    obtain ⟨kq, HA, HJ1, HB⟩ := hcut
    cases kq with
    | zero => exact absurd HA.out (by simp [nat_Read.j0])
    | succ kj1 =>
      have H := HA.out
      clear HA
      simp only [nat_Read.j0] at H
      have H' := Aside0.mk H
      clear H
      go_wp2
      go_loopg [4, 30] kj1 (fun kq v4 v30 w' => ∃ (x4_2 : List Int) (x30_2 : Int), v30 = .int .i64 x30_2 ∧ Aside0 (nat_Read.l0 kq a0 x4_2 (a0.size : Int) x30_2 = some (r1, r2)) ∧ Aside0 (kq ≤ kj1) ∧ Aside0 (Kd.V (Kd.int .u32) 109 w' w.heap.size (fun k_ => (w.heap.size ≤ k_)) v4 x4_2) ∧ Aside0 (Below w.heap.size w w'))
      case atStart => exact ⟨(([] : List Int)), (0), (by first | rfl | (simp; done) | (simp [*]; done)), H', ⟨Nat.le_refl _⟩, ⟨(Kd.V_nil _ _ _ _ _)⟩, ⟨by exact lc HB.out⟩⟩
      case round =>
        clear H'
        try clear c1
        try clear p2
        try clear c3
        try clear c3b0
        try clear c3b1
        try clear c4
        try clear c4b0
        try clear c4b1
        try clear c5
        try clear c5b0
        try clear c5b1
        try clear c6
        try clear c6b0
        try clear c6b1
        try clear p7
        try clear q7
        try clear hx7
        try clear qi7
        try clear c8
        try clear c8b0
        try clear c8b1
        try clear c9
        try clear c10
        try clear c10b0
        try clear c10b1
        try clear c14
        try clear c14b0
        try clear c14b1
        try clear p2
        try clear p7
        try clear q7
        obtain ⟨x4_2, x30_2, rfl, HA, HK2, HO_4, HB⟩ := hrel
        cases gk with
        | zero => exact absurd HA.out (by simp [nat_Read.l0])
        | succ k2 =>
          have H := HA.out
          clear HA
          simp only [nat_Read.l0] at H
          by_cases c17 : x30_2 < (a0.size : Int)
          · rw [if_pos c17] at H
            have c17b0 : decide (x30_2 < (a0.size : Int)) = true := decide_eq_true c17
            clear c17
            by_cases c18 : 0 ≤ x30_2
            · rw [if_pos c18] at H
              have c18b0 := eq_true c18
              have c18b1 : decide (0 ≤ x30_2) = true := decide_eq_true c18
              clear c18
              by_cases c19 : x30_2 ≤ (wrap64 (x30_2 + 1))
              · rw [if_pos c19] at H
                have c19b0 := eq_true c19
                have c19b1 : decide (x30_2 ≤ (wrap64 (x30_2 + 1))) = true := decide_eq_true c19
                by_cases c20 : (wrap64 (x30_2 + 1)) ≤ (a0.size : Int)
                · rw [if_pos c20] at H
                  have c20b0 := eq_true c20
                  have c20b1 : decide ((wrap64 (x30_2 + 1)) ≤ (a0.size : Int)) = true := decide_eq_true c20
                  replace H := Option.bind_eq_some_iff.mp H
                  obtain ⟨t3, A210, H⟩ := H
                  replace H : (if t3 = true then ((nat_Of.f k2 10).bind fun t4 => ((nat_times.f k2 x4_2 t4).bind fun t7 => (if x30_2 < (a0.size : Int) then ((nat_Of.f k2 (((bt a0 x30_2) - 48) % 256)).bind fun t10 => ((nat_plus.f k2 t7 t10).bind fun t13 => (nat_Read.l0 k2 a0 t13 (a0.size : Int) (wrap64 (x30_2 + 1))))) else (none)))) else (some (([] : List Int), 4))) = some (r1, r2) := H
                  have A21 := Aside0.mk A210
                  clear A210
                  by_cases c22 : t3 = true
                  · subst c22
                    have H1 : ((nat_Of.f k2 10).bind fun t4 => ((nat_times.f k2 x4_2 t4).bind fun t7 => (if x30_2 < (a0.size : Int) then ((nat_Of.f k2 (((bt a0 x30_2) - 48) % 256)).bind fun t10 => ((nat_plus.f k2 t7 t10).bind fun t13 => (nat_Read.l0 k2 a0 t13 (a0.size : Int) (wrap64 (x30_2 + 1))))) else (none)))) = some (r1, r2) := by rw [if_pos rfl] at H; exact H
                    clear H
                    have H := H1
                    clear H1
                    replace H := Option.bind_eq_some_iff.mp H
                    obtain ⟨t4, A230, H⟩ := H
                    replace H : ((nat_times.f k2 x4_2 t4).bind fun t7 => (if x30_2 < (a0.size : Int) then ((nat_Of.f k2 (((bt a0 x30_2) - 48) % 256)).bind fun t10 => ((nat_plus.f k2 t7 t10).bind fun t13 => (nat_Read.l0 k2 a0 t13 (a0.size : Int) (wrap64 (x30_2 + 1))))) else (none))) = some (r1, r2) := H
                    have A23 := Aside0.mk A230
                    clear A230
                    replace H := Option.bind_eq_some_iff.mp H
                    obtain ⟨t7, A240, H⟩ := H
                    replace H : (if x30_2 < (a0.size : Int) then ((nat_Of.f k2 (((bt a0 x30_2) - 48) % 256)).bind fun t10 => ((nat_plus.f k2 t7 t10).bind fun t13 => (nat_Read.l0 k2 a0 t13 (a0.size : Int) (wrap64 (x30_2 + 1))))) else (none)) = some (r1, r2) := H
                    have A24 := Aside0.mk A240
                    clear A240
                    by_cases c25 : x30_2 < (a0.size : Int)
                    · rw [if_pos c25] at H
                      have c25b0 : decide (x30_2 < (a0.size : Int)) = true := decide_eq_true c25
                      clear c25
                      replace H := Option.bind_eq_some_iff.mp H
                      obtain ⟨t10, A270, H⟩ := H
                      replace H : ((nat_plus.f k2 t7 t10).bind fun t13 => (nat_Read.l0 k2 a0 t13 (a0.size : Int) (wrap64 (x30_2 + 1)))) = some (r1, r2) := H
                      have A27 := Aside0.mk A270
                      clear A270
                      replace H := Option.bind_eq_some_iff.mp H
                      obtain ⟨t13, A280, H⟩ := H
                      replace H : (nat_Read.l0 k2 a0 t13 (a0.size : Int) (wrap64 (x30_2 + 1))) = some (r1, r2) := H
                      have A28 := Aside0.mk A280
                      clear A280
                      have H' := Aside0.mk H
                      clear H
                      try go_wp2_with (first | (go_at_call 134; (with_reducible refine (strings_Contains.calls (⟨#[48, 49, 50, 51, 52, 53, 54, 55, 56, 57]⟩ : ByteArray) (a0.extract (x30_2 : Int).toNat ((wrap64 (x30_2 + 1)) : Int).toNat) true _ A21.out).mono ?_); rintro e w29 ⟨rfl, hb⟩; have n0_ := Aside0.mk (Kd.V_below (vc HO_4.out) hb); have n1_ := Aside0.mk (below_step (lc HB.out) hb); clear HO_4; clear HB; have HO_4 := n0_; have HB := n1_; clear n0_ n1_; (try clear hb); (try clear hb2); (try clear hk); (try clear hi)))
                      have n0_ := Aside0.mk (Kd.V_drew HO_4.out)
                      have n1_ := Aside0.mk (below_drew1 HB.out)
                      clear HO_4
                      clear HB
                      have HO_4 := n0_
                      have HB := n1_
                      clear n0_ n1_
                      have p26 : 0 ≤ (x30_2 : Int) := of_decide_eq_true (by first | (with_reducible assumption) | assumption)
                      have q26 : x30_2 < (a0.size : Int) := of_decide_eq_true (by first | (with_reducible assumption) | assumption)
                      have hx26 := bt_at a0 x30_2
                      replace p26 := eq_true p26
                      replace q26 := eq_true q26
                      refine start_ (n := 11) (S := fun w' => True) (ds := []) #[false, false, false, false, false, false, false, false, false, false, false] (by kernel_rfl) rfl rfl trivial (fun hHeld => ?_); refine with_tabW nat_Read.tab11 nat_Read.bits11 (fun HT_ HW_ => ?_)
                      generalize w29.drew = w30 at HO_4 HB hHeld ⊢
                      refine pure_ (i := 0) (N := some 40) (v := ?_) (a' := ?_) #[true, false, false, false, false, false, false, false, false, false, false] rfl rfl (any_of HT_.out (by kernel_rfl)) (fun _ _ _ h => h) (Or.inl ⟨by rfl, ?_⟩) ?_ ?_
                      rotate_left
                      · intro w'
                        go_simp
                        with_reducible rfl
                      rotate_left
                      · simp only [Act.put, List.setIfInBounds_toArray, List.set_cons_zero, List.set_cons_succ, i64_w, i32_w]
                        rfl
                      refine pure_ (i := 3) (N := some 43) (v := ?_) (a' := ?_) #[true, false, false, true, false, false, false, false, false, false, false] rfl rfl (any_of HT_.out (by kernel_rfl)) (fun _ _ _ h => h) (Or.inl ⟨by rfl, ?_⟩) ?_ ?_
                      rotate_left
                      · intro w'
                        go_simp
                        with_reducible rfl
                      rotate_left
                      · simp only [Act.put, List.setIfInBounds_toArray, List.set_cons_zero, List.set_cons_succ, i64_w, i32_w]
                        rfl
                      refine pure_ (i := 4) (N := some 44) (v := ?_) (a' := ?_) #[true, false, false, true, true, false, false, false, false, false, false] rfl rfl (any_of HT_.out (by kernel_rfl)) (fun _ _ _ h => h) (Or.inl ⟨by rfl, ?_⟩) ?_ ?_
                      rotate_left
                      · intro w'
                        go_simp
                        with_reducible rfl
                      rotate_left
                      · simp only [Act.put, List.setIfInBounds_toArray, List.set_cons_zero, List.set_cons_succ, i64_w, i32_w]
                        rfl
                      refine take_ (i := 5) (N := some 45) (v := ?_) (a' := ?_) #[true, false, false, true, true, true, false, false, false, false, false] rfl rfl (take_ofW HT_.out HW_.out (by kernel_rfl)) (fun _ _ _ h => h) (Or.inl ⟨by rfl, ?_⟩) hHeld ?_ ?_
                      rotate_left
                      · intro w' _
                        go_simp
                        with_reducible rfl
                      rotate_left
                      · simp only [Act.put, List.setIfInBounds_toArray, List.set_cons_zero, List.set_cons_succ, i64_w, i32_w]
                        rfl
                      refine pure_ (i := 6) (N := some 46) (v := ?_) (a' := ?_) #[true, false, false, true, true, true, true, false, false, false, false] rfl rfl (any_of HT_.out (by kernel_rfl)) (fun _ _ _ h => h) (Or.inl ⟨by rfl, ?_⟩) ?_ ?_
                      rotate_left
                      · intro w'
                        go_simp
                        with_reducible rfl
                      rotate_left
                      · simp only [Act.put, List.setIfInBounds_toArray, List.set_cons_zero, List.set_cons_succ, i64_w, i32_w]
                        rfl
                      refine pure_ (i := 7) (N := some 47) (v := ?_) (a' := ?_) #[true, false, false, true, true, true, true, true, false, false, false] rfl rfl (any_of HT_.out (by kernel_rfl)) (fun _ _ _ h => h) (Or.inl ⟨by rfl, ?_⟩) ?_ ?_
                      rotate_left
                      · intro w'
                        go_simp
                        with_reducible rfl
                      rotate_left
                      · simp only [Act.put, List.setIfInBounds_toArray, List.set_cons_zero, List.set_cons_succ, i64_w, i32_w]
                        rfl
                      refine one_ (i := 1) (N := some 41) #[true, true, false, true, true, true, true, true, false, false, false] rfl rfl (one_of HT_.out (by kernel_rfl)) (by decide) (fun K hK => ?_)
                      refine goes_ Tryz.func137 (by kernel_rfl) rfl #[.int .u64 10] (by rfl) rfl rfl (by (try simp only [List.map_toArray, List.map_cons, List.map_nil]); first | done | rfl | (simp only [List.length_drop, List.length_take]; rfl)) ?_
                      with_reducible refine (nat_Of.calls k2 10 t4 _ A23.out).mono ?_
                      rintro e w31 ⟨v5, rfl, ho0, hb⟩
                      refine ⟨_, rfl, ?_⟩
                      have n0_ := Aside0.mk (Kd.V_below (vc HO_4.out) hb)
                      have n1_ := Aside0.mk (Kd.V_lower (Kd.V_mono (ok' := fun k_ => (w.heap.size ≤ k_)) ho0 (fun k_ hk_ => (Nat.le_trans (below_size (lc HB.out)) hk_))) (below_size (lc HB.out)))
                      have n2_ := Aside0.mk (below_step (lc HB.out) hb)
                      clear HO_4
                      clear HB
                      have HO_4 := n0_
                      have HO6 := n1_
                      have HB := n2_
                      clear n0_ n1_ n2_
                      (try clear hb)
                      (try clear hb2)
                      (try clear hk)
                      (try clear hi)
                      (try clear ho0)
                      obtain ⟨Ao32, co32, eo32⟩ := Kd.V_slice HO_4.out
                      (first | subst eo32 | (injection eo32 with f1_ f2_ f3_; have f4_ := f1_.symm; have f5_ := f3_.symm; clear f1_ f2_ f3_; subst f4_; subst f5_))
                      obtain ⟨Ao33, co33, eo33⟩ := Kd.V_slice HO6.out
                      (first | subst eo33 | (injection eo33 with f1_ f2_ f3_; have f4_ := f1_.symm; have f5_ := f3_.symm; clear f1_ f2_ f3_; subst f4_; subst f5_))
                      refine hK.out _ _ trivial (fun hHeld => ?_)
                      clear hK K
                      refine norm_ (a' := ?_) ?_ ?_
                      rotate_left
                      · show Act.put _ (some 41) _ = _
                        simp only [Act.put, List.setIfInBounds_toArray, List.set_cons_zero, List.set_cons_succ, i64_w, i32_w]
                        rfl
                      refine one_ (i := 2) (N := some 42) #[true, true, true, true, true, true, true, true, false, false, false] rfl rfl (one_of HT_.out (by kernel_rfl)) (by decide) (fun K hK => ?_)
                      refine goes_ Tryz.func136 (by kernel_rfl) rfl #[.slice Ao32 x4_2.length co32, .slice Ao33 t4.length co33] (by rfl) rfl rfl (by (try simp only [List.map_toArray, List.map_cons, List.map_nil]); first | done | rfl | (simp only [List.length_drop, List.length_take]; rfl)) ?_
                      with_reducible refine (nat_times.calls k2 _ _ x4_2 _ _ t4 t7 _ ?side1 ?side2 ?side3 ?side4 A24.out).mono ?_
                      (case side1 => exact cc (Kd.V_reads' HO_4.out).2.2)
                      (case side2 => exact (Kd.V_reads' HO_4.out).2.1)
                      (case side3 => exact cc (Kd.V_reads' HO6.out).2.2)
                      (case side4 => exact (Kd.V_reads' HO6.out).2.1)
                      rintro e w34 ⟨v8, rfl, ho0, hb⟩
                      refine ⟨_, rfl, ?_⟩
                      have n0_ := Aside0.mk (Kd.V_below (vc HO_4.out) hb)
                      have n1_ := Aside0.mk (Kd.V_below (vc HO6.out) hb)
                      have n2_ := Aside0.mk (Kd.V_lower (Kd.V_mono (ok' := fun k_ => (w.heap.size ≤ k_)) ho0 (fun k_ hk_ => (Nat.le_trans (below_size (lc HB.out)) hk_))) (below_size (lc HB.out)))
                      have n3_ := Aside0.mk (below_step (lc HB.out) hb)
                      clear HO_4
                      clear HO6
                      clear HB
                      have HO_4 := n0_
                      have HO6 := n1_
                      have HO9 := n2_
                      have HB := n3_
                      clear n0_ n1_ n2_ n3_
                      (try clear hb)
                      (try clear hb2)
                      (try clear hk)
                      (try clear hi)
                      (try clear ho0)
                      refine hK.out _ _ trivial (fun hHeld => ?_)
                      clear hK K
                      refine norm_ (a' := ?_) ?_ ?_
                      rotate_left
                      · show Act.put _ (some 42) _ = _
                        simp only [Act.put, List.setIfInBounds_toArray, List.set_cons_zero, List.set_cons_succ, i64_w, i32_w]
                        rfl
                      refine one_ (i := 8) (N := some 48) #[true, true, true, true, true, true, true, true, true, false, false] rfl rfl (one_of HT_.out (by kernel_rfl)) (by decide) (fun K hK => ?_)
                      refine goes_ Tryz.func137 (by kernel_rfl) rfl #[.int .u64 (((bt a0 x30_2) - 48) % 256)] (by rfl) rfl rfl (by (try simp only [List.map_toArray, List.map_cons, List.map_nil]); first | done | rfl | (rw [← u64_u8_DoorFNatRead]; rfl) | (simp only [List.length_drop, List.length_take]; rfl)) ?_
                      with_reducible refine (nat_Of.calls k2 (((bt a0 x30_2) - 48) % 256) t10 _ A27.out).mono ?_
                      rintro e w35 ⟨v11, rfl, ho0, hb⟩
                      refine ⟨_, rfl, ?_⟩
                      have n0_ := Aside0.mk (Kd.V_below (vc HO_4.out) hb)
                      have n1_ := Aside0.mk (Kd.V_below (vc HO6.out) hb)
                      have n2_ := Aside0.mk (Kd.V_below (vc HO9.out) hb)
                      have n3_ := Aside0.mk (Kd.V_lower (Kd.V_mono (ok' := fun k_ => (w.heap.size ≤ k_)) ho0 (fun k_ hk_ => (Nat.le_trans (below_size (lc HB.out)) hk_))) (below_size (lc HB.out)))
                      have n4_ := Aside0.mk (below_step (lc HB.out) hb)
                      clear HO_4
                      clear HO6
                      clear HO9
                      clear HB
                      have HO_4 := n0_
                      have HO6 := n1_
                      have HO9 := n2_
                      have HO12 := n3_
                      have HB := n4_
                      clear n0_ n1_ n2_ n3_ n4_
                      (try clear hb)
                      (try clear hb2)
                      (try clear hk)
                      (try clear hi)
                      (try clear ho0)
                      obtain ⟨Ao36, co36, eo36⟩ := Kd.V_slice HO9.out
                      (first | subst eo36 | (injection eo36 with f1_ f2_ f3_; have f4_ := f1_.symm; have f5_ := f3_.symm; clear f1_ f2_ f3_; subst f4_; subst f5_))
                      obtain ⟨Ao37, co37, eo37⟩ := Kd.V_slice HO12.out
                      (first | subst eo37 | (injection eo37 with f1_ f2_ f3_; have f4_ := f1_.symm; have f5_ := f3_.symm; clear f1_ f2_ f3_; subst f4_; subst f5_))
                      refine hK.out _ _ trivial (fun hHeld => ?_)
                      clear hK K
                      refine norm_ (a' := ?_) ?_ ?_
                      rotate_left
                      · show Act.put _ (some 48) _ = _
                        simp only [Act.put, List.setIfInBounds_toArray, List.set_cons_zero, List.set_cons_succ, i64_w, i32_w]
                        rfl
                      refine one_ (i := 9) (N := some 49) #[true, true, true, true, true, true, true, true, true, true, false] rfl rfl (one_of HT_.out (by kernel_rfl)) (by decide) (fun K hK => ?_)
                      refine goes_ Tryz.func135 (by kernel_rfl) rfl #[.slice Ao36 t7.length co36, .slice Ao37 t10.length co37] (by rfl) rfl rfl (by (try simp only [List.map_toArray, List.map_cons, List.map_nil]); first | done | rfl | (simp only [List.length_drop, List.length_take]; rfl)) ?_
                      with_reducible refine (nat_plus.calls k2 _ _ t7 _ _ t10 t13 _ ?side1 ?side2 ?side3 ?side4 A28.out).mono ?_
                      (case side1 => exact cc (Kd.V_reads' HO9.out).2.2)
                      (case side2 => exact (Kd.V_reads' HO9.out).2.1)
                      (case side3 => exact cc (Kd.V_reads' HO12.out).2.2)
                      (case side4 => exact (Kd.V_reads' HO12.out).2.1)
                      rintro e w38 ⟨v14, rfl, ho0, hb⟩
                      refine ⟨_, rfl, ?_⟩
                      have n0_ := Aside0.mk (Kd.V_below (vc HO_4.out) hb)
                      have n1_ := Aside0.mk (Kd.V_below (vc HO6.out) hb)
                      have n2_ := Aside0.mk (Kd.V_below (vc HO9.out) hb)
                      have n3_ := Aside0.mk (Kd.V_below (vc HO12.out) hb)
                      have n4_ := Aside0.mk (Kd.V_lower (Kd.V_mono (ok' := fun k_ => (w.heap.size ≤ k_)) ho0 (fun k_ hk_ => (Nat.le_trans (below_size (lc HB.out)) hk_))) (below_size (lc HB.out)))
                      have n5_ := Aside0.mk (below_step (lc HB.out) hb)
                      clear HO_4
                      clear HO6
                      clear HO9
                      clear HO12
                      clear HB
                      have HO_4 := n0_
                      have HO6 := n1_
                      have HO9 := n2_
                      have HO12 := n3_
                      have HO15 := n4_
                      have HB := n5_
                      clear n0_ n1_ n2_ n3_ n4_ n5_
                      (try clear hb)
                      (try clear hb2)
                      (try clear hk)
                      (try clear hi)
                      (try clear ho0)
                      refine hK.out _ _ trivial (fun hHeld => ?_)
                      clear hK K
                      refine norm_ (a' := ?_) ?_ ?_
                      rotate_left
                      · show Act.put _ (some 49) _ = _
                        simp only [Act.put, List.setIfInBounds_toArray, List.set_cons_zero, List.set_cons_succ, i64_w, i32_w]
                        rfl
                      refine pure_ (i := 10) (N := some 4) (v := ?_) (a' := ?_) #[true, true, true, true, true, true, true, true, true, true, true] rfl rfl (any_of HT_.out (by kernel_rfl)) (fun _ _ _ h => h) (Or.inl ⟨by rfl, ?_⟩) ?_ ?_
                      rotate_left
                      · intro w'
                        go_simp
                        with_reducible rfl
                      rotate_left
                      · simp only [Act.put, List.setIfInBounds_toArray, List.set_cons_zero, List.set_cons_succ, i64_w, i32_w]
                        rfl
                      refine done_ (done_of HT_.out (by kernel_rfl)) ?_
                      try go_wp2
                      go_roundg k2
                      case measure => have := HJ1.out; have := HK2.out; omega
                      case rel => exact ⟨(t13), (wrap64 (x30_2 + 1)), (by first | rfl | (simp; done) | (simp [*]; done)), H', ⟨by have := HJ1.out; have := HK2.out; omega⟩, ⟨by (with_reducible repeat (first | apply Kd.V_alloc | apply Kd.V_drewN | apply Kd.V_drew)); exact HO15.out⟩, ⟨by exact lc HB.out⟩⟩
                    · rw [if_neg c25] at H
                      exact absurd H (by simp)
                  · replace c22 := Bool.eq_false_iff.mpr c22
                    subst c22
                    have H1 : (some (([] : List Int), 4)) = some (r1, r2) := by rw [if_neg (show ¬ (false = true) by decide)] at H; exact H
                    clear H
                    have H := H1
                    clear H1
                    simp only [Option.some.injEq, Prod.mk.injEq] at H
                    obtain ⟨rfl, rfl⟩ := H
                    go_wp2_with (first | (go_at_call 134; (with_reducible refine (strings_Contains.calls (⟨#[48, 49, 50, 51, 52, 53, 54, 55, 56, 57]⟩ : ByteArray) (a0.extract (x30_2 : Int).toNat ((wrap64 (x30_2 + 1)) : Int).toNat) false _ A21.out).mono ?_); rintro e w39 ⟨rfl, hb⟩; have n0_ := Aside0.mk (Kd.V_below (vc HO_4.out) hb); have n1_ := Aside0.mk (below_step (lc HB.out) hb); clear HO_4; clear HB; have HO_4 := n0_; have HB := n1_; clear n0_ n1_; (try clear hb); (try clear hb2); (try clear hk); (try clear hi)))
                    go_ret2
                    exact ⟨_, by first | rfl | (simp [errW_none, errW_some] <;> rfl) | (simp [*, errW_none, errW_some] <;> rfl), (Kd.V_nil _ _ _ _ _), by exact lc HB.out⟩
                · rw [if_neg c20] at H
                  exact absurd H (by simp)
              · rw [if_neg c19] at H
                exact absurd H (by simp)
            · rw [if_neg c18] at H
              exact absurd H (by simp)
          · rw [if_neg c17] at H
            have c17b0 : decide (x30_2 < (a0.size : Int)) = false := decide_eq_false c17
            clear c17
            simp only [Option.some.injEq, Prod.mk.injEq] at H
            obtain ⟨rfl, rfl⟩ := H
            go_wp2
            go_ret2
            exact ⟨_, by first | rfl | (simp [errW_none, errW_some] <;> rfl) | (simp [*, errW_none, errW_some] <;> rfl), by (with_reducible repeat (first | apply Kd.V_alloc | apply Kd.V_drewN | apply Kd.V_drew)); exact HO_4.out, by exact lc HB.out⟩
end Go.Proofs.YtioofhilohmfbaaGreatDoor.P
end
section
set_option linter.unusedVariables false
namespace Go.Proofs.YtioofhilohmfbaaGreatDoor
open Go Go.RowKit Go.Lib Go.Proofs.YtioofhilohmfbaaGreatDoorW.PrintWords Go.Proofs.YtioofhilohmfbaaGreatDoorW.PrintLast Go.Proofs.YtioofhilohmfbaaGreatDoorW.PrintMore Go.Proofs.YtioofhilohmfbaaGreatDoor.P
def runN (p : UInt8 → Bool) : List UInt8 → Nat
  | [] => 0
  | c :: t => if p c = true then 1 + runN p t else 0
theorem runN_le (p : UInt8 → Bool) : ∀ l, runN p l ≤ l.length
  | [] => Nat.le_refl _
  | c :: t => by have := runN_le p t; rw [runN]; split <;> rw [List.length_cons] <;> omega
theorem lbt_drop (s : ByteArray) (i : Nat) (h : i < s.size) : ∃ c t, s.data.toList.drop i = c :: t ∧ (∀ h' : i < s.size, s[i]'h' = c) ∧ s.data.toList.drop (i + 1) = t := by
  have hl : i < s.data.toList.length := by rw [← Lib.size_eq]; exact h
  exact ⟨s.data.toList[i], s.data.toList.drop (i + 1), List.drop_eq_getElem_cons hl, fun _ => rfl, rfl⟩
set_option maxRecDepth 100000 in
set_option maxHeartbeats 4000000 in
theorem run_calls (s : ByteArray) (hs : s.size ≤ 17592186044416) (g : Nat) (eg : ∀ args w, (callFunc g args).run Tryz.prog w = .ok (.enter g args) w) (p : UInt8 → Bool)
    (hp : ∀ (c : UInt8) (w : World), Calls Tryz.prog g #[.int .u8 (c.toNat : Int)] w fun e w' => e = .returned (.bool (p c)) ∧ Below w.heap.size w w') (w : World) :
    Calls Tryz.prog 19 #[.string s, .func (.func g) #[] #[]] w fun e w' => e = .returned (.int .i64 (runN p s.data.toList : Nat)) ∧ Below w.heap.size w w' := by
  obtain ⟨res, hres⟩ : ∃ res : Nat, runN p s.data.toList = res := ⟨_, rfl⟩
  rw [hres]
  have HRES : Aside0 (0 + runN p (s.data.toList.drop 0) = res) := ⟨by rw [Nat.zero_add]; exact hres⟩
  have HS := Aside0.mk hs
  clear hres hs
  go_enter Tryz.func19, Tryz.ntmps19
  go_wp2
  go_loopg [5] (s.size + 1) (fun kq v5 wr => ∃ (j : Int), v5 = .int .i64 j ∧ Aside0 (∃ i : Nat, j = (i : Int) ∧ i ≤ s.size ∧ s.size < kq + i ∧ i + runN p (s.data.toList.drop i) = res) ∧ Aside0 (Below w.heap.size w wr))
  case atStart => exact ⟨0, rfl, ⟨0, rfl, Nat.zero_le _, by omega, HRES.out⟩, ⟨Below.refl _ _⟩⟩
  case round =>
    obtain ⟨j, rfl, ⟨i, hij, hi, hk, hO⟩, HB⟩ := hrel
    cases gk with
    | zero => exact absurd hk (by omega)
    | succ kq =>
      by_cases hlt : i < s.size
      · obtain ⟨c, t, e, hb, et⟩ := lbt_drop s i hlt
        have hbc : ∀ h' : j.toNat < s.size, s[j.toNat]'h' = c := fun h' => by
          have e : j.toNat = i := by omega
          simp only [e]
          exact hb _
        clear hb
        rw [e, runN] at hO
        have hg : decide (j < (s.size : Int)) = true := decide_eq_true (by omega)
        have p1 : (0 ≤ j) = True := eq_true (by omega)
        have q1 : (j < (s.size : Int)) = True := eq_true (by omega)
        have HJ : Aside0 (j = (i : Int) ∧ i < s.size ∧ s.size < kq + 1 + i) := ⟨hij, hlt, hk⟩
        have HC := Aside0.mk (hp c)
        have HE := Aside0.mk et
        clear e et hij hi hk hlt
        cases hkp : p c with
        | true =>
          rw [hkp, if_pos rfl] at hO
          have HO := Aside0.mk hO
          clear hO
          go_wp2_with (go_at_fn g; (try rw [hbc]); (with_reducible refine (HC.out _).mono ?_); rintro e w7 ⟨rfl, hbl⟩; rw [hkp]; have NB := Aside0.mk (below_step HB.out hbl); clear hbl)
          go_roundg kq
          case measure => have := HJ.out; omega
          case rel =>
            refine ⟨wrap64 (j + 1), rfl, ⟨i + 1, ?_, ?_, ?_, ?_⟩, NB⟩
            · have := HJ.out; have := HS.out; unfold wrap64; omega
            · have := HJ.out; omega
            · have := HJ.out; omega
            · rw [HE.out]; have := HO.out; omega
        | false =>
          rw [hkp, if_neg Bool.false_ne_true] at hO
          have HO := Aside0.mk hO
          clear hO
          go_wp2_with (go_at_fn g; (try rw [hbc]); (with_reducible refine (HC.out _).mono ?_); rintro e w7 ⟨rfl, hbl⟩; rw [hkp]; have NB := Aside0.mk (below_step HB.out hbl); clear hbl)
          go_ret
          exact ⟨by rw [← HO.out, HJ.out.1]; rfl, NB.out⟩
      · have hg : decide (j < (s.size : Int)) = false := decide_eq_false (by omega)
        have hz : s.data.toList.drop i = [] := List.drop_eq_nil_of_le (by rw [← Lib.size_eq]; omega)
        rw [hz, runN] at hO
        have HO : Aside0 (j = (res : Int)) := ⟨by omega⟩
        clear hij hi hk hO hlt hz
        go_wp2
        go_ret
        exact ⟨by rw [← HO.out]; rfl, HB.out⟩
end Go.Proofs.YtioofhilohmfbaaGreatDoor
end
section
namespace Go.Proofs.YtioofhilohmfbaaGreatDoor.P
open Go.RowKit Go.Proofs.YtioofhilohmfbaaGreatDoorW.PrintWords Go.Proofs.YtioofhilohmfbaaGreatDoorW.PrintLast Go.Proofs.YtioofhilohmfbaaGreatDoorW.PrintMore
attribute [local go_sem] max2_int min2_int max_two min_two max_three min_three max_four min_four
set_option linter.unusedVariables false
set_option linter.unusedSimpArgs false
/-! ### lex_isBlank: function 20 -/
def lex_isBlank.f (a0 : Int) : Option (Bool) := if a0 = 32 then (some true) else (if a0 = 9 then (some true) else (if a0 = 10 then (some true) else (some (a0 == 13))))
set_option maxHeartbeats 8000000 in
set_option maxRecDepth 100000 in
theorem lex_isBlank.calls (a0 : Int) (r : Bool) (w : World) (h : lex_isBlank.f a0 = some r) :
    Calls Tryz.prog 20 #[.int .u8 a0] w fun e w' => e = .returned (.bool r) ∧ Drawn0 w w' := by
  have H : (if a0 = 32 then (some true) else (if a0 = 9 then (some true) else (if a0 = 10 then (some true) else (some (a0 == 13))))) = some r := h
  clear h
  by_cases c2 : a0 = 32
  · rw [if_pos c2] at H
    have c2b0 : (a0 == 32) = true := beq_iff_eq.mpr c2
    have c2b1 : (a0 != 32) = false := bne_eq_false_iff_eq.mpr c2
    clear c2
    obtain rfl := Option.some.inj H
    go_enter Tryz.func20, Tryz.ntmps20
    go_wp2
    go_ret
    exact ⟨by first | rfl | (simp; done) | (simp [*]; done), by repeat (first | exact Drawn0.refl _ | apply Drawn0.step)⟩
  · rw [if_neg c2] at H
    have c2b0 : (a0 == 32) = false := beq_eq_false_iff_ne.mpr c2
    have c2b1 : (a0 != 32) = true := bne_iff_ne.mpr c2
    by_cases c3 : a0 = 9
    · rw [if_pos c3] at H
      have c3b0 : (a0 == 9) = true := beq_iff_eq.mpr c3
      have c3b1 : (a0 != 9) = false := bne_eq_false_iff_eq.mpr c3
      clear c3
      obtain rfl := Option.some.inj H
      go_enter Tryz.func20, Tryz.ntmps20
      go_wp2
      go_ret
      exact ⟨by first | rfl | (simp; done) | (simp [*]; done), by repeat (first | exact Drawn0.refl _ | apply Drawn0.step)⟩
    · rw [if_neg c3] at H
      have c3b0 : (a0 == 9) = false := beq_eq_false_iff_ne.mpr c3
      have c3b1 : (a0 != 9) = true := bne_iff_ne.mpr c3
      by_cases c4 : a0 = 10
      · rw [if_pos c4] at H
        have c4b0 : (a0 == 10) = true := beq_iff_eq.mpr c4
        have c4b1 : (a0 != 10) = false := bne_eq_false_iff_eq.mpr c4
        clear c4
        obtain rfl := Option.some.inj H
        go_enter Tryz.func20, Tryz.ntmps20
        go_wp2
        go_ret
        exact ⟨by first | rfl | (simp; done) | (simp [*]; done), by repeat (first | exact Drawn0.refl _ | apply Drawn0.step)⟩
      · rw [if_neg c4] at H
        have c4b0 : (a0 == 10) = false := beq_eq_false_iff_ne.mpr c4
        have c4b1 : (a0 != 10) = true := bne_iff_ne.mpr c4
        obtain rfl := Option.some.inj H
        go_enter Tryz.func20, Tryz.ntmps20
        go_wp2
        go_ret
        exact ⟨by first | rfl | (simp; done) | (simp [*]; done), by repeat (first | exact Drawn0.refl _ | apply Drawn0.step)⟩
/-- THE ONE PURE STATEMENT of lex_isBlank: yours. -/
def lex_isBlank.Pure : Prop := ∀ (a0 : Int), (Lit.int .u8 a0).wf = true → lex_isBlank.f a0 = some true
theorem lex_isBlank.walk (P : lex_isBlank.Pure) (a0 : Int) (w : World) (w0 : (Lit.int .u8 a0).wf = true) :
    Calls Tryz.prog 20 #[.int .u8 a0] w fun e w' => e = .returned (.bool true) ∧ Below w.heap.size w w' := by
  have h := P a0 w0
  refine (lex_isBlank.calls a0 true w h).mono ?_
  rintro e w' ⟨rfl, hd⟩
  exact ⟨rfl, hd.below⟩
end Go.Proofs.YtioofhilohmfbaaGreatDoor.P
end
section
namespace Go.Proofs.YtioofhilohmfbaaGreatDoor.P
open Go.RowKit Go.Proofs.YtioofhilohmfbaaGreatDoorW.PrintWords Go.Proofs.YtioofhilohmfbaaGreatDoorW.PrintLast Go.Proofs.YtioofhilohmfbaaGreatDoorW.PrintMore
attribute [local go_sem] max2_int min2_int max_two min_two max_three min_three max_four min_four
set_option linter.unusedVariables false
set_option linter.unusedSimpArgs false
/-! ### lex_isDigit: function 47 -/
def lex_isDigit.f (a0 : Int) : Option (Bool) := if 48 ≤ a0 then (some (decide (a0 ≤ 57))) else (some false)
set_option maxHeartbeats 8000000 in
set_option maxRecDepth 100000 in
theorem lex_isDigit.calls (a0 : Int) (r : Bool) (w : World) (h : lex_isDigit.f a0 = some r) :
    Calls Tryz.prog 47 #[.int .u8 a0] w fun e w' => e = .returned (.bool r) ∧ Drawn0 w w' := by
  have H : (if 48 ≤ a0 then (some (decide (a0 ≤ 57))) else (some false)) = some r := h
  clear h
  by_cases c2 : 48 ≤ a0
  · rw [if_pos c2] at H
    have c2b0 : decide (48 ≤ a0) = true := decide_eq_true c2
    clear c2
    obtain rfl := Option.some.inj H
    go_enter Tryz.func47, Tryz.ntmps47
    go_wp2
    go_ret
    exact ⟨by first | rfl | (simp; done) | (simp [*]; done), by repeat (first | exact Drawn0.refl _ | apply Drawn0.step)⟩
  · rw [if_neg c2] at H
    have c2b0 : decide (48 ≤ a0) = false := decide_eq_false c2
    clear c2
    obtain rfl := Option.some.inj H
    go_enter Tryz.func47, Tryz.ntmps47
    go_wp2
    go_ret
    exact ⟨by first | rfl | (simp; done) | (simp [*]; done), by repeat (first | exact Drawn0.refl _ | apply Drawn0.step)⟩
end Go.Proofs.YtioofhilohmfbaaGreatDoor.P
end
section
namespace Go.Proofs.YtioofhilohmfbaaGreatDoor.P
open Go.RowKit Go.Proofs.YtioofhilohmfbaaGreatDoorW.PrintWords Go.Proofs.YtioofhilohmfbaaGreatDoorW.PrintLast Go.Proofs.YtioofhilohmfbaaGreatDoorW.PrintMore
attribute [local go_sem] max2_int min2_int max_two min_two max_three min_three max_four min_four
set_option linter.unusedVariables false
set_option linter.unusedSimpArgs false
/-! ### lex_isLetter: function 45 -/
def lex_isLetter.f (a0 : Int) : Option (Bool) := if 97 ≤ a0 then (if a0 ≤ 122 then (some true) else (if 65 ≤ a0 then (if a0 ≤ 90 then (some true) else (some (a0 == 95))) else (some (a0 == 95)))) else (if 65 ≤ a0 then (if a0 ≤ 90 then (some true) else (some (a0 == 95))) else (some (a0 == 95)))
set_option maxHeartbeats 8000000 in
set_option maxRecDepth 100000 in
theorem lex_isLetter.calls (a0 : Int) (r : Bool) (w : World) (h : lex_isLetter.f a0 = some r) :
    Calls Tryz.prog 45 #[.int .u8 a0] w fun e w' => e = .returned (.bool r) ∧ Drawn0 w w' := by
  have H : (if 97 ≤ a0 then (if a0 ≤ 122 then (some true) else (if 65 ≤ a0 then (if a0 ≤ 90 then (some true) else (some (a0 == 95))) else (some (a0 == 95)))) else (if 65 ≤ a0 then (if a0 ≤ 90 then (some true) else (some (a0 == 95))) else (some (a0 == 95)))) = some r := h
  clear h
  by_cases c2 : 97 ≤ a0
  · rw [if_pos c2] at H
    have c2b0 : decide (97 ≤ a0) = true := decide_eq_true c2
    clear c2
    by_cases c3 : a0 ≤ 122
    · rw [if_pos c3] at H
      have c3b0 : decide (a0 ≤ 122) = true := decide_eq_true c3
      clear c3
      obtain rfl := Option.some.inj H
      go_enter Tryz.func45, Tryz.ntmps45
      go_wp2
      go_ret
      exact ⟨by first | rfl | (simp; done) | (simp [*]; done), by repeat (first | exact Drawn0.refl _ | apply Drawn0.step)⟩
    · rw [if_neg c3] at H
      have c3b0 : decide (a0 ≤ 122) = false := decide_eq_false c3
      clear c3
      by_cases c4 : 65 ≤ a0
      · rw [if_pos c4] at H
        have c4b0 : decide (65 ≤ a0) = true := decide_eq_true c4
        clear c4
        by_cases c5 : a0 ≤ 90
        · rw [if_pos c5] at H
          have c5b0 : decide (a0 ≤ 90) = true := decide_eq_true c5
          clear c5
          obtain rfl := Option.some.inj H
          go_enter Tryz.func45, Tryz.ntmps45
          go_wp2
          go_ret
          exact ⟨by first | rfl | (simp; done) | (simp [*]; done), by repeat (first | exact Drawn0.refl _ | apply Drawn0.step)⟩
        · rw [if_neg c5] at H
          have c5b0 : decide (a0 ≤ 90) = false := decide_eq_false c5
          clear c5
          obtain rfl := Option.some.inj H
          go_enter Tryz.func45, Tryz.ntmps45
          go_wp2
          go_ret
          exact ⟨by first | rfl | (simp; done) | (simp [*]; done), by repeat (first | exact Drawn0.refl _ | apply Drawn0.step)⟩
      · rw [if_neg c4] at H
        have c4b0 : decide (65 ≤ a0) = false := decide_eq_false c4
        clear c4
        obtain rfl := Option.some.inj H
        go_enter Tryz.func45, Tryz.ntmps45
        go_wp2
        go_ret
        exact ⟨by first | rfl | (simp; done) | (simp [*]; done), by repeat (first | exact Drawn0.refl _ | apply Drawn0.step)⟩
  · rw [if_neg c2] at H
    have c2b0 : decide (97 ≤ a0) = false := decide_eq_false c2
    clear c2
    by_cases c6 : 65 ≤ a0
    · rw [if_pos c6] at H
      have c6b0 : decide (65 ≤ a0) = true := decide_eq_true c6
      clear c6
      by_cases c7 : a0 ≤ 90
      · rw [if_pos c7] at H
        have c7b0 : decide (a0 ≤ 90) = true := decide_eq_true c7
        clear c7
        obtain rfl := Option.some.inj H
        go_enter Tryz.func45, Tryz.ntmps45
        go_wp2
        go_ret
        exact ⟨by first | rfl | (simp; done) | (simp [*]; done), by repeat (first | exact Drawn0.refl _ | apply Drawn0.step)⟩
      · rw [if_neg c7] at H
        have c7b0 : decide (a0 ≤ 90) = false := decide_eq_false c7
        clear c7
        obtain rfl := Option.some.inj H
        go_enter Tryz.func45, Tryz.ntmps45
        go_wp2
        go_ret
        exact ⟨by first | rfl | (simp; done) | (simp [*]; done), by repeat (first | exact Drawn0.refl _ | apply Drawn0.step)⟩
    · rw [if_neg c6] at H
      have c6b0 : decide (65 ≤ a0) = false := decide_eq_false c6
      clear c6
      obtain rfl := Option.some.inj H
      go_enter Tryz.func45, Tryz.ntmps45
      go_wp2
      go_ret
      exact ⟨by first | rfl | (simp; done) | (simp [*]; done), by repeat (first | exact Drawn0.refl _ | apply Drawn0.step)⟩
/-- THE ONE PURE STATEMENT of lex_isLetter: yours. -/
def lex_isLetter.Pure : Prop := ∀ (a0 : Int), (Lit.int .u8 a0).wf = true → lex_isLetter.f a0 = some true
theorem lex_isLetter.walk (P : lex_isLetter.Pure) (a0 : Int) (w : World) (w0 : (Lit.int .u8 a0).wf = true) :
    Calls Tryz.prog 45 #[.int .u8 a0] w fun e w' => e = .returned (.bool true) ∧ Below w.heap.size w w' := by
  have h := P a0 w0
  refine (lex_isLetter.calls a0 true w h).mono ?_
  rintro e w' ⟨rfl, hd⟩
  exact ⟨rfl, hd.below⟩
end Go.Proofs.YtioofhilohmfbaaGreatDoor.P
end
section
namespace Go.Proofs.YtioofhilohmfbaaGreatDoor.P
open Go.RowKit Go.Proofs.YtioofhilohmfbaaGreatDoorW.PrintWords Go.Proofs.YtioofhilohmfbaaGreatDoorW.PrintLast Go.Proofs.YtioofhilohmfbaaGreatDoorW.PrintMore
attribute [local go_sem] max2_int min2_int max_two min_two max_three min_three max_four min_four
set_option linter.unusedVariables false
set_option linter.unusedSimpArgs false
/-! ### lex_isPart: function 46 -/
def lex_isPart.f (a0 : Int) : Option (Bool) := (lex_isLetter.f a0).bind fun t1 => (if t1 = true then (some true) else ((lex_isDigit.f a0).bind fun t2 => (some t2)))
set_option maxHeartbeats 8000000 in
set_option maxRecDepth 100000 in
theorem lex_isPart.calls (a0 : Int) (r : Bool) (w : World) (h : lex_isPart.f a0 = some r) :
    Calls Tryz.prog 46 #[.int .u8 a0] w fun e w' => e = .returned (.bool r) ∧ Drawn0 w w' := by
  have H : ((lex_isLetter.f a0).bind fun t1 => (if t1 = true then (some true) else ((lex_isDigit.f a0).bind fun t2 => (some t2)))) = some r := h
  clear h
  replace H := Option.bind_eq_some_iff.mp H
  obtain ⟨t1, A20, H⟩ := H
  replace H : (if t1 = true then (some true) else ((lex_isDigit.f a0).bind fun t2 => (some t2))) = some r := H
  have A2 := Aside0.mk A20
  clear A20
  by_cases c3 : t1 = true
  · subst c3
    have H1 : (some true) = some r := by rw [if_pos rfl] at H; exact H
    clear H
    have H := H1
    clear H1
    obtain rfl := Option.some.inj H
    go_enter Tryz.func46, Tryz.ntmps46
    go_wp2_with (first | (go_at_call 45; (with_reducible refine (lex_isLetter.calls a0 true _ A2.out).mono ?_); rintro e w' ⟨rfl, ⟨nd, rfl⟩⟩))
    go_ret
    exact ⟨by first | rfl | (simp; done) | (simp [*]; done), by repeat (first | exact Drawn0.refl _ | apply Drawn0.step)⟩
  · replace c3 := Bool.eq_false_iff.mpr c3
    subst c3
    have H1 : ((lex_isDigit.f a0).bind fun t2 => (some t2)) = some r := by rw [if_neg (show ¬ (false = true) by decide)] at H; exact H
    clear H
    have H := H1
    clear H1
    replace H := Option.bind_eq_some_iff.mp H
    obtain ⟨t2, A40, H⟩ := H
    replace H : (some t2) = some r := H
    have A4 := Aside0.mk A40
    clear A40
    obtain rfl := Option.some.inj H
    go_enter Tryz.func46, Tryz.ntmps46
    go_wp2_with (first | (go_at_call 45; (with_reducible refine (lex_isLetter.calls a0 false _ A2.out).mono ?_); rintro e w' ⟨rfl, ⟨nd, rfl⟩⟩) | (go_at_call 47; (with_reducible refine (lex_isDigit.calls a0 t2 _ A4.out).mono ?_); rintro e w' ⟨rfl, ⟨nd, rfl⟩⟩))
    go_ret
    exact ⟨by first | rfl | (simp; done) | (simp [*]; done), by repeat (first | exact Drawn0.refl _ | apply Drawn0.step)⟩
/-- THE ONE PURE STATEMENT of lex_isPart: yours. -/
def lex_isPart.Pure : Prop := ∀ (a0 : Int), (Lit.int .u8 a0).wf = true → lex_isPart.f a0 = some true
theorem lex_isPart.walk (P : lex_isPart.Pure) (a0 : Int) (w : World) (w0 : (Lit.int .u8 a0).wf = true) :
    Calls Tryz.prog 46 #[.int .u8 a0] w fun e w' => e = .returned (.bool true) ∧ Below w.heap.size w w' := by
  have h := P a0 w0
  refine (lex_isPart.calls a0 true w h).mono ?_
  rintro e w' ⟨rfl, hd⟩
  exact ⟨rfl, hd.below⟩
end Go.Proofs.YtioofhilohmfbaaGreatDoor.P
end
section
set_option linter.unusedVariables false
set_option linter.unusedSimpArgs false
namespace Go.Proofs.YtioofhilohmfbaaGreatDoor
open Go Go.RowKit Go.Lib Go.Proofs.YtioofhilohmfbaaGreatDoorW.PrintWords Go.Proofs.YtioofhilohmfbaaGreatDoorW.PrintLast Go.Proofs.YtioofhilohmfbaaGreatDoorW.PrintMore Go.Proofs.YtioofhilohmfbaaGreatDoor.P
def blankB (c : UInt8) : Bool := c.toNat == 32 || c.toNat == 9 || c.toNat == 10 || c.toNat == 13
def partB (c : UInt8) : Bool := decide (97 ≤ c.toNat ∧ c.toNat ≤ 122) || decide (65 ≤ c.toNat ∧ c.toNat ≤ 90) || c.toNat == 95 || decide (48 ≤ c.toNat ∧ c.toNat ≤ 57)
def numB (c : UInt8) : Bool := partB c || c.toNat == 46
theorem blank_all : ∀ c : Fin 256, P.lex_isBlank.f (c.val : Int) = some (blankB (UInt8.ofNat c.val)) := by decide +kernel
theorem part_all : ∀ c : Fin 256, P.lex_isPart.f (c.val : Int) = some (partB (UInt8.ofNat c.val)) := by decide +kernel
theorem blank_f (c : UInt8) : P.lex_isBlank.f (c.toNat : Int) = some (blankB c) := by
  have := blank_all ⟨c.toNat, c.toNat_lt⟩
  simpa using this
theorem part_f (c : UInt8) : P.lex_isPart.f (c.toNat : Int) = some (partB c) := by
  have := part_all ⟨c.toNat, c.toNat_lt⟩
  simpa using this
theorem drawn_below {w w' : World} (h : Drawn0 w w') : Below w.heap.size w w' := by
  obtain ⟨nd, rfl⟩ := h
  exact pw_below_drewN (Below.refl _ _) _
set_option maxRecDepth 100000 in
set_option maxHeartbeats 1000000 in
theorem first1_calls (c : UInt8) (w : World) : Calls Tryz.prog 48 #[.int .u8 (c.toNat : Int)] w fun e w' => e = .returned (.bool (numB c)) ∧ Below w.heap.size w w' := by
  have hf := part_f c
  have hb : numB c = (partB c || c.toNat == 46) := rfl
  have hd : decide ((c.toNat : Int) = 46) = (c.toNat == 46) := by
    by_cases h : c.toNat = 46
    · rw [h]; rfl
    · rw [decide_eq_false (by omega), beq_eq_false_iff_ne.2 h]
  rw [hb]
  cases hp : partB c with
  | true =>
    rw [hp] at hf
    go_enter Tryz.func48, Tryz.ntmps48
    go_wp2_with (go_at_call 46; (with_reducible refine (P.lex_isPart.calls _ true _ hf).mono ?_); rintro e w1 ⟨rfl, hd0⟩; have HB := Aside0.mk (drawn_below hd0); clear hd0)
    go_ret
    exact ⟨rfl, HB.out⟩
  | false =>
    rw [hp] at hf
    go_enter Tryz.func48, Tryz.ntmps48
    go_wp2_with (go_at_call 46; (with_reducible refine (P.lex_isPart.calls _ false _ hf).mono ?_); rintro e w1 ⟨rfl, hd0⟩; have HB := Aside0.mk (drawn_below hd0); clear hd0)
    go_ret
    exact ⟨by simp [hd, beq_iff_eq] <;> omega, HB.out⟩
def P.lex_runBlank.f (a0 : ByteArray) : Option Int := if a0.size ≤ 17592186044416 then some ((runN blankB a0.data.toList : Nat) : Int) else none
theorem P.lex_runBlank.calls (a0 : ByteArray) (r : Int) (w : World) (h : P.lex_runBlank.f a0 = some r) :
    Calls Tryz.prog 19 #[.string a0, .func (.func 20) #[] #[]] w fun e w' => e = .returned (.int .i64 r) ∧ Below w.heap.size w w' := by
  unfold P.lex_runBlank.f at h
  by_cases hs : a0.size ≤ 17592186044416
  case neg => rw [if_neg hs] at h; cases h
  rw [if_pos hs] at h
  injection h with h
  subst h
  exact run_calls a0 hs 20 (enters_of Tryz.func20 (by kernel_rfl) rfl) blankB (fun c w => (P.lex_isBlank.calls _ _ w (blank_f c)).mono fun e w' ⟨he, hd⟩ => ⟨he, drawn_below hd⟩) w
def P.lex_runPart.f (a0 : ByteArray) : Option Int := if a0.size ≤ 17592186044416 then some ((runN partB a0.data.toList : Nat) : Int) else none
theorem P.lex_runPart.calls (a0 : ByteArray) (r : Int) (w : World) (h : P.lex_runPart.f a0 = some r) :
    Calls Tryz.prog 19 #[.string a0, .func (.func 46) #[] #[]] w fun e w' => e = .returned (.int .i64 r) ∧ Below w.heap.size w w' := by
  unfold P.lex_runPart.f at h
  by_cases hs : a0.size ≤ 17592186044416
  case neg => rw [if_neg hs] at h; cases h
  rw [if_pos hs] at h
  injection h with h
  subst h
  exact run_calls a0 hs 46 (enters_of Tryz.func46 (by kernel_rfl) rfl) partB (fun c w => (P.lex_isPart.calls _ _ w (part_f c)).mono fun e w' ⟨he, hd⟩ => ⟨he, drawn_below hd⟩) w
def P.lex_runFirst.f (a0 : ByteArray) : Option Int := if a0.size ≤ 17592186044416 then some ((runN numB a0.data.toList : Nat) : Int) else none
theorem P.lex_runFirst.calls (a0 : ByteArray) (r : Int) (w : World) (h : P.lex_runFirst.f a0 = some r) :
    Calls Tryz.prog 19 #[.string a0, .func (.func 48) #[] #[]] w fun e w' => e = .returned (.int .i64 r) ∧ Below w.heap.size w w' := by
  unfold P.lex_runFirst.f at h
  by_cases hs : a0.size ≤ 17592186044416
  case neg => rw [if_neg hs] at h; cases h
  rw [if_pos hs] at h
  injection h with h
  subst h
  exact run_calls a0 hs 48 (enters_of Tryz.func48 (by kernel_rfl) rfl) numB (fun c w => first1_calls c w) w
end Go.Proofs.YtioofhilohmfbaaGreatDoor
end
section
set_option linter.unusedVariables false
set_option linter.unusedSimpArgs false
namespace Go.Proofs.YtioofhilohmfbaaGreatDoor
open Go Go.RowKit Go.Lib Go.Proofs.YtioofhilohmfbaaGreatDoorW.PrintWords Go.Proofs.YtioofhilohmfbaaGreatDoorW.PrintLast Go.Proofs.YtioofhilohmfbaaGreatDoorW.PrintMore Go.Proofs.YtioofhilohmfbaaGreatDoor.P
/-- Where the first byte stands for which the test says yes; -1: none. -/
def idxN (p : UInt8 → Bool) (l : List UInt8) : Int := if runN (fun c => !p c) l < l.length then (runN (fun c => !p c) l : Int) else -1
def asciiL (l : List UInt8) : Bool := l.all fun c => decide (c.toNat < 128)
theorem asciiL_at {s : ByteArray} (h : asciiL s.data.toList = true) (i : Nat) (hi : i < s.size) : (s[i]'hi).toNat < 128 := by
  have := List.all_eq_true.1 h (s[i]'hi) (by
    have : s[i]'hi = s.data.toList[i]'(by rw [← Lib.size_eq]; exact hi) := rfl
    rw [this]
    exact List.getElem_mem _)
  simpa using this
set_option maxRecDepth 100000 in
set_option maxHeartbeats 4000000 in
theorem indexF_calls (s : ByteArray) (hs : s.size ≤ 17592186044416) (ha : asciiL s.data.toList = true) (g : Nat) (eg : ∀ args w, (callFunc g args).run Tryz.prog w = .ok (.enter g args) w) (p : UInt8 → Bool)
    (hp : ∀ (c : UInt8) (w : World), c.toNat < 128 → Calls Tryz.prog g #[.int .i32 (c.toNat : Int)] w fun e w' => e = .returned (.bool (p c)) ∧ Below w.heap.size w w') (w : World) :
    Calls Tryz.prog 133 #[.string s, .func (.func g) #[] #[], .bool true] w fun e w' => e = .returned (.int .i64 (idxN p s.data.toList)) ∧ Below w.heap.size w w' := by
  obtain ⟨R, hR⟩ : ∃ R : Nat, runN (fun c => !p c) s.data.toList = R := ⟨_, rfl⟩
  have HR : Aside0 (runN (fun c => !p c) (s.data.toList.drop 0) + 0 = R) := ⟨by rw [Nat.add_zero]; exact hR⟩
  have HS := Aside0.mk hs
  have HA := Aside0.mk (asciiL_at ha)
  have HP := Aside0.mk hp
  have HR2 := Aside0.mk hR
  clear hs ha hp hR
  go_enter Tryz.func133, Tryz.ntmps133
  go_wp2
  go_loopg [] s.size (fun kq wx => ∃ pos : Nat, Aside0 (wx.heap[w.heap.size]? = some (.stringIter s pos)) ∧ Aside0 (Below w.heap.size w wx) ∧ Aside0 (runN (fun c => !p c) (s.data.toList.drop pos) + pos = R ∧ s.size ≤ pos + kq))
  case atStart => exact ⟨0, ⟨World.iter_heap w s 0⟩, ⟨(Below.refl _ w).alloc (Nat.le_refl _) _⟩, ⟨HR.out, by omega⟩⟩
  case round =>
    obtain ⟨pos, HI, HB, HO⟩ := hrel
    by_cases hps : pos < s.size
    · obtain ⟨kq, rfl⟩ : ∃ m, gk = m + 1 := ⟨gk - 1, by have := HO.out; omega⟩
      have hc := HA.out pos hps
      have hnx : ∀ ty, (Instr.next (.pointer (some ⟨w.heap.size, 0, none⟩)) true ty).run Tryz.prog wr = _ := fun ty => Lib.run_next_ascii_at wr w.heap.size s pos ty HI.out hps hc
      obtain ⟨c, t, e1, e2, e3⟩ := lbt_drop s pos hps
      rw [e2 hps] at hnx hc
      obtain ⟨hO, hK⟩ := HO.out
      rw [e1, runN] at hO
      have hit := Lib.iterAt_heap wr w.heap.size s pos (pos + 1) HI.out
      have hbw := Lib.below_iterAt HB.out (k := w.heap.size) (Nat.le_refl _) s (pos + 1)
      obtain ⟨W, hW⟩ : ∃ W, wr.iterAt w.heap.size s (pos + 1) = W := ⟨_, rfl⟩
      rw [hW] at hnx hit hbw
      have HC := Aside0.mk (HP.out c W hc)
      have HI2 := Aside0.mk hit
      have HB2 := Aside0.mk hbw
      have HW := Aside0.mk (below_size hbw)
      have E3 := Aside0.mk e3
      clear e1 e2 e3 hit hbw hc hW HI HB HO
      cases hpc : p c with
      | true =>
        rw [hpc, if_neg (by decide)] at hO
        have HF : Aside0 (idxN p s.data.toList = (pos : Int)) := ⟨by
          have hR := HR2.out
          unfold idxN
          rw [hR, if_pos (by rw [← Lib.size_eq]; omega)]
          omega⟩
        clear hO hK hps
        go_wp2_with (go_at_fn g; (with_reducible refine HC.out.mono ?_); rintro e w7 ⟨rfl, hbl⟩; rw [hpc]; have NB := Aside0.mk (below_step HB2.out hbl); clear hbl)
        go_ret
        exact ⟨by rw [HF.out]; rfl, NB.out⟩
      | false =>
        rw [hpc, if_pos (show (!false) = true from rfl)] at hO
        have HN : Aside0 (runN (fun c => !p c) (s.data.toList.drop (pos + 1)) + (pos + 1) = R ∧ s.size ≤ pos + 1 + kq) := ⟨by rw [E3.out]; omega, by omega⟩
        clear hO hK hps
        go_wp2_with (go_at_fn g; (with_reducible refine HC.out.mono ?_); rintro e w7 ⟨rfl, hbl⟩; rw [hpc]; have NB := Aside0.mk (below_step HB2.out hbl); have NI := Aside0.mk ((hbl.block w.heap.size (Array.getElem?_eq_some_iff.1 HI2.out).1).trans HI2.out); clear hbl)
        go_roundg kq
        case measure => omega
        case rel => exact ⟨pos + 1, NI, NB, HN⟩
    · have hnx : ∀ ty, (Instr.next (.pointer (some ⟨w.heap.size, 0, none⟩)) true ty).run Tryz.prog wr = _ := fun ty => Lib.run_next_end_at wr w.heap.size s pos ty HI.out hps
      have HF : Aside0 (idxN p s.data.toList = -1) := ⟨by
        have hR := HR2.out
        have hO := HO.out.1
        unfold idxN
        rw [hR, if_neg (by rw [← Lib.size_eq]; omega)]⟩
      clear hps
      go_wp2
      go_ret
      exact ⟨by rw [HF.out]; rfl, HB.out⟩
set_option maxRecDepth 100000 in
theorem indexFunc_calls (s : ByteArray) (hs : s.size ≤ 17592186044416) (ha : asciiL s.data.toList = true) (g : Nat) (eg : ∀ args w, (callFunc g args).run Tryz.prog w = .ok (.enter g args) w) (p : UInt8 → Bool)
    (hp : ∀ (c : UInt8) (w : World), c.toNat < 128 → Calls Tryz.prog g #[.int .i32 (c.toNat : Int)] w fun e w' => e = .returned (.bool (p c)) ∧ Below w.heap.size w w') (w : World) :
    Calls Tryz.prog 93 #[.string s, .func (.func g) #[] #[]] w fun e w' => e = .returned (.int .i64 (idxN p s.data.toList)) ∧ Below w.heap.size w w' := by
  have HC := Aside0.mk (indexF_calls s hs ha g eg p hp w)
  clear hs ha hp
  obtain ⟨r, hr⟩ : ∃ r, idxN p s.data.toList = r := ⟨_, rfl⟩
  rw [hr] at HC ⊢
  clear hr eg
  go_enter Tryz.func93, Tryz.ntmps93
  go_wp2_with (go_at_call 133; (with_reducible refine HC.out.mono ?_); rintro e w7 ⟨rfl, hbl⟩; have NB := Aside0.mk hbl; clear hbl)
  go_ret
  exact ⟨rfl, NB.out⟩
/-! ### measure.take's own functions -/
def digB (c : UInt8) : Bool := decide (48 ≤ c.toNat ∧ c.toNat ≤ 57)
def digits10 : ByteArray := ⟨#[48, 49, 50, 51, 52, 53, 54, 55, 56, 57]⟩
theorem dig_index : ∀ c : Fin 128, decide (0 ≤ Lib.indexByte digits10.data.toList (UInt8.ofNat c.val)) = digB (UInt8.ofNat c.val) := by decide +kernel
theorem take1_calls (c : UInt8) (w : World) (hc : c.toNat < 128) : Calls Tryz.prog 91 #[.int .i32 (c.toNat : Int)] w fun e w' => e = .returned (.bool (!digB c)) ∧ Below w.heap.size w w' := by
  have h := dig_index ⟨c.toNat, hc⟩
  simp only [UInt8.ofNat_toNat] at h
  have HC : ∀ W : World, Calls Tryz.prog 59 #[.string digits10, .int .i32 (c.toNat : Int)] W fun e w' => e = .returned (.bool (digB c)) ∧ w' = W := fun W => by
    have := Tryz.strings_ContainsRune_ascii digits10 (c.toNat : Int) W (by omega) (by omega)
    rwa [Int.toNat_natCast, show c.toNat.toUInt8 = c from UInt8.ofNat_toNat, h] at this
  obtain ⟨j, hj⟩ : ∃ j : Int, (c.toNat : Int) = j := ⟨_, rfl⟩
  rw [hj] at HC ⊢
  have HK := Aside0.mk HC
  clear h HC hj hc
  unfold digits10 at HK
  go_enter Tryz.func91, Tryz.ntmps91
  go_wp2_with (go_at_call 59; (with_reducible refine (HK.out _).mono ?_); rintro e w7 ⟨rfl, rfl⟩)
  go_ret
  exact ⟨rfl, Below.refl _ _⟩
/-- The digits that a text begins with. -/
def digRun (l : List UInt8) : Nat := runN digB l
theorem idx_dig (l : List UInt8) : idxN (fun c => !digB c) l = if digRun l < l.length then (digRun l : Int) else -1 := by
  unfold idxN digRun
  simp only [Bool.not_not]
set_option maxRecDepth 100000 in
set_option maxHeartbeats 1000000 in
/-- take's 'run': 'ad' is where the other one lies. -/
theorem take2_calls (s : ByteArray) (hs : s.size ≤ 17592186044416) (ha : asciiL s.data.toList = true) (ad : Addr) (w : World) (hc : w.cell? ad = some (.func (.func 91) #[] #[])) :
    Calls Tryz.prog 92 #[.string s, .pointer (some ad)] w fun e w' => e = .returned (.string (s.extract 0 (digRun s.data.toList))) ∧ Below w.heap.size w w' := by
  have HC := Aside0.mk (fun W => indexFunc_calls s hs ha 91 (enters_of Tryz.func91 (by kernel_rfl) rfl) _ take1_calls W)
  have hle := runN_le digB s.data.toList
  rw [← Lib.size_eq] at hle
  obtain ⟨n, hn⟩ : ∃ n, digRun s.data.toList = n := ⟨_, rfl⟩
  have hi := idx_dig s.data.toList
  rw [hn, ← Lib.size_eq] at hi
  rw [hn]
  unfold digRun at hn
  rw [hn] at hle
  by_cases hlt : n < s.size
  · rw [if_pos hlt] at hi
    rw [hi] at HC
    obtain ⟨j, hj⟩ : ∃ j : Int, (n : Int) = j := ⟨_, rfl⟩
    rw [hj] at HC
    have hjn : j.toNat = n := by omega
    have c1 : decide (0 ≤ j) = true := decide_eq_true (by omega)
    have c2 : (0 ≤ j) = True := eq_true (by omega)
    have c3 : (j ≤ (s.size : Int)) = True := eq_true (by omega)
    have HN := Aside0.mk hjn
    clear hs ha hle hn hi hlt hj hjn
    go_enter Tryz.func92, Tryz.ntmps92
    go_wp2_with (go_at_call 93; (with_reducible refine (HC.out _).mono ?_); rintro e w7 ⟨rfl, hbl⟩; have NB := Aside0.mk hbl; clear hbl)
    go_ret
    exact ⟨by rw [← HN.out]; rfl, NB.out⟩
  · rw [if_neg hlt] at hi
    rw [hi] at HC
    have HE : Aside0 (s.extract 0 n = s) := ⟨by
      rw [show n = s.size by omega]; exact ByteArray.extract_zero_size⟩
    clear hs ha hle hn hi hlt
    go_enter Tryz.func92, Tryz.ntmps92
    go_wp2_with (go_at_call 93; (with_reducible refine (HC.out _).mono ?_); rintro e w7 ⟨rfl, hbl⟩; have NB := Aside0.mk hbl; clear hbl)
    go_ret
    exact ⟨by rw [HE.out]; rfl, NB.out⟩
end Go.Proofs.YtioofhilohmfbaaGreatDoor
end
section
set_option linter.unusedVariables false
namespace Go.Proofs.YtioofhilohmfbaaGreatDoor.P
open Go Go.RowKit Go.Proofs.YtioofhilohmfbaaGreatDoorW.PrintWords Go.Proofs.YtioofhilohmfbaaGreatDoorW.PrintLast Go.Proofs.YtioofhilohmfbaaGreatDoorW.PrintMore
/-- The number of decimal digits. -/
def decV (l : List UInt8) : Nat := l.foldl (fun a c => a * 10 + (c.toNat - 48)) 0
theorem decV_snoc (l : List UInt8) (c : UInt8) : decV (l ++ [c]) = decV l * 10 + (c.toNat - 48) := by unfold decV; rw [List.foldl_append]; rfl
theorem dig_range {c : UInt8} (h : digB c = true) : 48 ≤ c.toNat ∧ c.toNat ≤ 57 := by unfold digB at h; exact of_decide_eq_true h
theorem decV_lt : ∀ (n : Nat) (l : List UInt8), l.length = n → (∀ c ∈ l, digB c = true) → decV l < 10 ^ n
  | 0, l, hl, _ => by
    obtain rfl := List.eq_nil_of_length_eq_zero hl
    decide
  | n + 1, l, hl, hd => by
    have hne : l ≠ [] := fun e => by rw [e] at hl; simp at hl
    have e := List.dropLast_concat_getLast hne
    have ih := decV_lt n l.dropLast (by simp [hl]) (fun c hc => hd c (by rw [List.dropLast_eq_take] at hc; exact List.mem_of_mem_take hc))
    have hc := dig_range (hd _ (List.getLast_mem hne))
    rw [← e, decV_snoc, Nat.pow_succ]
    omega
theorem decV_big {l : List UInt8} (hl : l.length ≤ 45) (hd : ∀ c ∈ l, digB c = true) : big 8 (decV l) := by
  have h1 := decV_lt _ l rfl hd
  have h2 : 10 ^ l.length ≤ 10 ^ 45 := Nat.pow_le_pow_right (by decide) hl
  have h3 : (10 : Nat) ^ 45 = 1000000000000000000000000000000000000000000000 := by decide
  have h4 : (4294967296 : Int) ^ 8 = 115792089237316195423570985008687907853269984665640564039457584007913129639936 := by decide
  unfold big
  rw [h4]
  omega
theorem digits_mem : ∀ c : Fin 256, digits10.data.toList.contains (UInt8.ofNat c.val) = digB (UInt8.ofNat c.val) := by decide +kernel
theorem digits_contains (c : UInt8) : digits10.data.toList.contains c = digB c := by
  have := digits_mem ⟨c.toNat, c.toNat_lt⟩
  simpa using this
theorem dropWhile_all (p : UInt8 → Bool) : ∀ l : List UInt8, (∀ c ∈ l, p c = true) → l.dropWhile p = []
  | [], _ => rfl
  | c :: t, h => by rw [List.dropWhile_cons, if_pos (h c (by simp))]; exact dropWhile_all p t (fun d hd => h d (by simp [hd]))
theorem trim_digits {l : List UInt8} (hd : ∀ c ∈ l, digB c = true) : Lib.trimS l digits10.data.toList = [] := by
  have h : Lib.trimRightS l digits10.data.toList = [] := by
    unfold Lib.trimRightS
    rw [dropWhile_all _ _ (fun c hc => by rw [digits_contains]; exact hd c (List.mem_reverse.1 hc)), List.reverse_nil]
  unfold Lib.trimS
  rw [h]
  rfl
theorem dig_index2 : ∀ c : Fin 256, digB (UInt8.ofNat c.val) = true → decide (0 ≤ Lib.indexByte digits10.data.toList (UInt8.ofNat c.val)) = true := by decide +kernel
theorem extract_one (s : ByteArray) (i : Nat) (h : i < s.size) : (s.extract i (i + 1)).data.toList = [s[i]'h] := by
  have hl : i < s.data.toList.length := by rw [← Lib.size_eq]; exact h
  rw [ByteArray.data_extract, Array.toList_extract, List.extract_eq_take_drop, Nat.add_sub_cancel_left, List.drop_eq_getElem_cons hl]
  rfl
theorem contains_dig (s : ByteArray) (i : Nat) (h : i < s.size) (hd : digB (s[i]'h) = true) : strings_Contains.f (⟨#[48, 49, 50, 51, 52, 53, 54, 55, 56, 57]⟩ : ByteArray) (s.extract i (i + 1)) = some true := by
  unfold strings_Contains.f
  rw [extract_one s i h]
  simp only
  have := dig_index2 ⟨(s[i]'h).toNat, (s[i]'h).toNat_lt⟩ (by simpa using hd)
  simp only [UInt8.ofNat_toNat] at this
  exact congrArg some this
theorem read_loop (s : ByteArray) (hs : s.size ≤ 45) (hd : ∀ c ∈ s.data.toList, digB c = true) :
    ∀ d i, i + d = s.size → Ev (fun k => nat_Read.l0 k s (L (decV (s.data.toList.take i))) (s.size : Int) (i : Int)) (L (decV s.data.toList), 0)
  | 0, i, hi => by
    refine Ev.at1 (fun k => ?_)
    simp only [nat_Read.l0]
    rw [if_neg (by omega), List.take_of_length_le (by rw [← Lib.size_eq]; omega)]
  | d + 1, i, hi => by
    have hlt : i < s.size := by omega
    have e2 : wrap64 ((i : Int) + 1) = ((i + 1 : Nat) : Int) := by unfold wrap64; omega
    have ih := read_loop s hs hd d (i + 1) (by omega)
    have hm : s[i]'hlt ∈ s.data.toList := by
      have : s[i]'hlt = s.data.toList[i]'(by rw [← Lib.size_eq]; exact hlt) := rfl
      rw [this]
      exact List.getElem_mem _
    have hc := hd _ hm
    have hr := dig_range hc
    have htk : s.data.toList.take (i + 1) = s.data.toList.take i ++ [s[i]'hlt] := by
      rw [List.take_succ_eq_append_getElem (by rw [← Lib.size_eq]; exact hlt)]
      rfl
    have hb1 := decV_big (l := s.data.toList.take i) (by rw [List.length_take]; omega) (fun c hc => hd c (List.mem_of_mem_take hc))
    have hb2 := decV_big (l := s.data.toList.take (i + 1)) (by rw [List.length_take]; omega) (fun c hc => hd c (List.mem_of_mem_take hc))
    rw [htk, decV_snoc] at hb2
    rw [htk, decV_snoc] at ih
    obtain ⟨v, hv⟩ : ∃ v, decV (s.data.toList.take i) = v := ⟨_, rfl⟩
    obtain ⟨g, hg⟩ : ∃ g, (s[i]'hlt).toNat - 48 = g := ⟨_, rfl⟩
    rw [hv] at hb1 hb2 ih ⊢
    rw [hg] at hb2 ih
    have m := fun {j : Nat} (h : big 8 j) => big_mono h (show 8 ≤ 64 by decide)
    have hbt : (bt s (i : Int) - 48) % 256 = (g : Int) := by
      unfold bt
      rw [dif_pos (by simpa using hlt)]
      simp only [Int.toNat_natCast]
      omega
    have h10 := of_L 10 (by decide)
    have hgL := of_L g (by omega)
    have ht := times_L (m hb1) (big_small 64 (show 10 < 4294967296 by decide) (by decide)) (m (big_le hb2 (by omega)))
    have hp := plus_ev (m (big_le hb2 (Nat.le_add_right (v * 10) g))) (big_small 64 (show g < 4294967296 by omega) (by decide)) (m hb2)
    have hcd := contains_dig s i hlt hc
    refine Ev.step (f := fun k => (nat_Of.f k 10).bind fun t4 => (nat_times.f k (L v) t4).bind fun t7 => (nat_Of.f k (g : Int)).bind fun t10 => (nat_plus.f k t7 t10).bind fun t13 => nat_Read.l0 k s t13 (s.size : Int) ((i + 1 : Nat) : Int)) (fun k => ?_) ?_
    · simp only [nat_Read.l0, e2, Int.toNat_natCast, hbt]
      rw [if_pos (show (i : Int) < (s.size : Int) by omega), if_pos (show (0 : Int) ≤ (i : Int) by omega), if_pos (show (i : Int) ≤ ((i + 1 : Nat) : Int) by omega), if_pos (show ((i + 1 : Nat) : Int) ≤ (s.size : Int) by omega), hcd]
      simp only [Option.bind_some, if_true]
      congr 1
      funext t4
      congr 1
      funext t7
      rw [if_pos (show (i : Int) < (s.size : Int) by omega)]
    · exact Ev.bind (f := fun k (t4 : List Int) => (nat_times.f k (L v) t4).bind fun t7 => (nat_Of.f k (g : Int)).bind fun t10 => (nat_plus.f k t7 t10).bind fun t13 => nat_Read.l0 k s t13 (s.size : Int) ((i + 1 : Nat) : Int)) h10
        (Ev.bind (f := fun k (t7 : List Int) => (nat_Of.f k (g : Int)).bind fun t10 => (nat_plus.f k t7 t10).bind fun t13 => nat_Read.l0 k s t13 (s.size : Int) ((i + 1 : Nat) : Int)) ht
          (Ev.bind (f := fun k (t10 : List Int) => (nat_plus.f k (L (v * 10)) t10).bind fun t13 => nat_Read.l0 k s t13 (s.size : Int) ((i + 1 : Nat) : Int)) hgL
            (Ev.bind (f := fun k (t13 : List Int) => nat_Read.l0 k s t13 (s.size : Int) ((i + 1 : Nat) : Int)) hp ih)))
theorem read_ev (s : ByteArray) (hs : s.size ≤ 45) (h0 : 0 < s.size) (hd : ∀ c ∈ s.data.toList, digB c = true) (hn : 1 < s.size → (s[0]'h0).toNat ≠ 48) : Ev (fun k => nat_Read.f k s) (L (decV s.data.toList), 0) := by
  have h := read_loop s hs hd s.size 0 (by omega)
  rw [List.take_zero, show decV [] = 0 from rfl, L_zero] at h
  have hj : Ev (fun k => nat_Read.j0 k s) (L (decV s.data.toList), 0) := Ev.step (fun k => by simp only [nat_Read.j0]; rfl) h
  have ht : strings_Trim.f s (⟨#[48, 49, 50, 51, 52, 53, 54, 55, 56, 57]⟩ : ByteArray) = some ⟨#[]⟩ := by
    unfold strings_Trim.f
    rw [if_pos ⟨by omega, by decide⟩, show (⟨#[48, 49, 50, 51, 52, 53, 54, 55, 56, 57]⟩ : ByteArray) = digits10 from rfl, trim_digits hd]
  have hne : s.toList ≠ [] := fun e => by
    rw [Lib.toList_data] at e
    rw [Lib.size_eq, e] at h0
    simp at h0
  have he : (⟨#[]⟩ : ByteArray).toList = [] := by rw [Lib.toList_data]
  refine Ev.congr (fun k => ?_) hj
  unfold nat_Read.f
  rw [if_neg (by omega), if_neg hne]
  by_cases h1 : 1 < s.size
  · have hb : ¬ bt s 0 = 48 := by
      unfold bt
      rw [dif_pos (by simpa using h0)]
      have := hn h1
      simp only [Int.toNat_zero]
      omega
    rw [if_pos (by omega), if_pos (by omega), if_neg hb, ht]
    simp only [Option.bind_some, he, if_true]
  · rw [if_neg (by omega), ht]
    simp only [Option.bind_some, he, if_true]
end Go.Proofs.YtioofhilohmfbaaGreatDoor.P
end
section
namespace Go.Proofs.YtioofhilohmfbaaGreatDoor.P
open Go Go.RowKit Go.Proofs.YtioofhilohmfbaaGreatDoorW.PrintWords
def strings_CutPrefix.f (a0 a1 : ByteArray) : Option (ByteArray × Bool) := some (⟨(Lib.trimPrefix a0.data.toList a1.data.toList).toArray⟩, Lib.hasPrefix a0.data.toList a1.data.toList)
theorem strings_CutPrefix.calls (a0 a1 : ByteArray) (r1 : ByteArray) (r2 : Bool) (w : World) (h : strings_CutPrefix.f a0 a1 = some (r1, r2)) :
    Calls Tryz.prog 65 #[.string a0, .string a1] w fun e w' => e = .returned (.tuple #[.string r1, .bool r2]) ∧ Below w.heap.size w w' := by
  unfold strings_CutPrefix.f at h
  injection h with h
  injection h with h1 h2
  subst h1; subst h2
  refine (Tryz.strings_CutPrefix a0 a1 w).mono ?_
  rintro e w' ⟨he, rfl⟩
  exact ⟨he, Below.refl _ _⟩
def strings_HasPrefix.f (a0 a1 : ByteArray) : Option Bool := some (Lib.hasPrefix a0.data.toList a1.data.toList)
theorem strings_HasPrefix.calls (a0 a1 : ByteArray) (r : Bool) (w : World) (h : strings_HasPrefix.f a0 a1 = some r) :
    Calls Tryz.prog 40 #[.string a0, .string a1] w fun e w' => e = .returned (.bool r) ∧ Below w.heap.size w w' := by
  unfold strings_HasPrefix.f at h
  injection h with h
  subst h
  refine (Tryz.strings_HasPrefix a0 a1 w).mono ?_
  rintro e w' ⟨he, rfl⟩
  exact ⟨he, Below.refl _ _⟩
end Go.Proofs.YtioofhilohmfbaaGreatDoor.P
end
section
namespace Go.Proofs.YtioofhilohmfbaaGreatDoor.P
open Go Go.RowKit Go.Proofs.YtioofhilohmfbaaGreatDoorW.PrintWords
def strings_Repeat.f (a0 : ByteArray) (a1 : Int) : Option ByteArray := if 0 ≤ a1 ∧ a1 ≤ 1000000 ∧ a0.size ≤ 1000000 then some ⟨(Lib.repeatL a0.data.toList a1.toNat).toArray⟩ else none
theorem strings_Repeat.calls (a0 : ByteArray) (a1 : Int) (r : ByteArray) (w : World) (h : strings_Repeat.f a0 a1 = some r) :
    Calls Tryz.prog 17 #[.string a0, .int .i64 a1] w fun e w' => e = .returned (.string r) ∧ Below w.heap.size w w' := by
  unfold strings_Repeat.f at h
  split at h
  · rename_i hc
    injection h with h
    subst h
    obtain ⟨n, rfl⟩ : ∃ n : Nat, a1 = (n : Int) := ⟨a1.toNat, by omega⟩
    rw [Int.toNat_natCast]
    have hm : a0.size * n ≤ 1000000 * 1000000 := Nat.mul_le_mul hc.2.2 (by omega)
    exact Tryz.strings_Repeat a0 n w (by omega) (by omega)
  · contradiction
end Go.Proofs.YtioofhilohmfbaaGreatDoor.P
end
section
set_option linter.unusedVariables false
set_option linter.unusedSimpArgs false
namespace Go.Proofs.YtioofhilohmfbaaGreatDoor
open Go Go.RowKit Go.Lib Go.Proofs.YtioofhilohmfbaaGreatDoorW.PrintWords Go.Proofs.YtioofhilohmfbaaGreatDoorW.PrintLast Go.Proofs.YtioofhilohmfbaaGreatDoorW.PrintMore Go.Proofs.YtioofhilohmfbaaGreatDoor.P
theorem store_func (P : Program) (w : World) (a : Addr) (m : Mode) (f : Fn) (x y : Array Value) : (store a (.func f x y) m).run P w = stored P w a (.func f x y) m := run_store P w a _ m rfl
attribute [local go_sem] store_func
theorem fn_cell (w : World) (o : Obj) (t : TypeId) (f : Fn) : ((w.alloc o).alloc (.cells #[.func f #[] #[]] t)).cell? ⟨w.heap.size + 1, 0, none⟩ = some (.func f #[] #[]) := by
  have h := blk_cell (blk_new (w.alloc o) (.cells #[.func f #[] #[]] t)) 0
  rw [show (w.alloc o).heap.size = w.heap.size + 1 by simp] at h
  exact h
/-- Where r lies, at a world. -/
def RB (w W : World) : Prop := W.heap[w.heap.size]? = some (.cells #[.bool false, .slice none 0 0, .slice none 0 0] 41)
theorem RB.below {w W W' : World} (h : RB w W) (hb : Below W.heap.size W W') : RB w W' := blk_below h hb
theorem RB.cells {w W : World} (h : RB w W) : W.cell? ⟨w.heap.size, 0, none⟩ = some (.bool false) ∧ W.cell? ⟨w.heap.size, 1, none⟩ = some (.slice none 0 0) ∧ W.cell? ⟨w.heap.size, 2, none⟩ = some (.slice none 0 0) ∧ W.frozen? ⟨w.heap.size, 0, none⟩ = false ∧ W.frozen? ⟨w.heap.size, 1, none⟩ = false ∧ W.frozen? ⟨w.heap.size, 2, none⟩ = false :=
  ⟨blk_cell h 0, blk_cell h 1, blk_cell h 2, blk_frozen h 0, blk_frozen h 1, blk_frozen h 2⟩
theorem RB.new (w : World) (t : TypeId) (f : Fn) : RB w ((w.alloc (.cells #[.bool false, .slice none 0 0, .slice none 0 0] 41)).alloc (.cells #[.func f #[] #[]] t)) := blk_alloc (blk_new w _) _
theorem below2 (w : World) (o o' : Obj) : Below w.heap.size w ((w.alloc o).alloc o') := below_alloc (below_alloc (Below.refl _ _) _) _
theorem RB.put {w W : World} (h : RB w W) (b : Bool) (v1 v2 : Value) : (((W.setCell ⟨w.heap.size, 0, none⟩ (.bool b)).setCell ⟨w.heap.size, 1, none⟩ v1).setCell ⟨w.heap.size, 2, none⟩ v2).heap[w.heap.size]? = some (.cells #[.bool b, v1, v2] 41) :=
  blk_put (blk_put (blk_put h 0 (.bool b) (cs' := #[.bool b, .slice none 0 0, .slice none 0 0]) rfl) 1 v1 (cs' := #[.bool b, v1, .slice none 0 0]) rfl) 2 v2 rfl
theorem below_put {w W : World} (h : Below w.heap.size w W) (b : Bool) (v1 v2 : Value) : Below w.heap.size w (((W.setCell ⟨w.heap.size, 0, none⟩ (.bool b)).setCell ⟨w.heap.size, 1, none⟩ v1).setCell ⟨w.heap.size, 2, none⟩ v2) :=
  below_set (below_set (below_set h (Nat.le_refl _)) (Nat.le_refl _)) (Nat.le_refl _)
theorem RB.put2 {w W : World} {b : Bool} {v1 v2 : Value} (h : W.heap[w.heap.size]? = some (.cells #[.bool b, v1, v2] 41)) : (((W.setCell ⟨w.heap.size, 0, none⟩ (.bool b)).setCell ⟨w.heap.size, 1, none⟩ v1).setCell ⟨w.heap.size, 2, none⟩ v2).heap[w.heap.size]? = some (.cells #[.bool b, v1, v2] 41) :=
  blk_put (blk_put (blk_put h 0 (.bool b) (cs' := #[.bool b, v1, v2]) rfl) 1 v1 (cs' := #[.bool b, v1, v2]) rfl) 2 v2 rfl
theorem R_put3 {e base g : Nat} {W : World} {ok : Nat → Prop} {v : Value} {xs : List Int} (h : Kd.R (Kd.int .u32) e W base ok v xs) (hg : g < base) (u0 u1 u2 : Value) : Kd.R (Kd.int .u32) e (((W.setCell ⟨g, 0, none⟩ u0).setCell ⟨g, 1, none⟩ u1).setCell ⟨g, 2, none⟩ u2) base ok v xs :=
  Kd.R_mono (Kd.R_far (p := ⟨g, 2, none⟩) (Kd.R_far (p := ⟨g, 1, none⟩) (Kd.R_far (p := ⟨g, 0, none⟩) (Kd.R_mono (ok' := fun k => ok k ∧ k ≠ g) (Kd.R_bound h) (fun k hk => ⟨hk.1, by have := hk.2.1; omega⟩)) (fun _ hk => hk.2) u0) (fun _ hk => hk.2) u1) (fun _ hk => hk.2) u2) (fun _ hk => hk.1)
/-- What take hands back: no number .. -/
def TakeNo (w : World) (e : Ending) (w' : World) : Prop := e = .returned (.tuple #[.agg #[.bool false, .slice none 0 0, .slice none 0 0], .string ⟨#[]⟩, .bool false]) ∧ Below w.heap.size w w'
/-- .. or one, and what is left of the text. -/
def TakeYes (w : World) (rest : ByteArray) (q1 : Bool) (q2 q3 : List Int) (e : Ending) (w' : World) : Prop :=
  ∃ v1 v2 : Value, e = .returned (.tuple #[.agg #[.bool q1, v1, v2], .string rest, .bool true]) ∧ Kd.R (Kd.int .u32) 109 w' w.heap.size (fun k_ => some k_ ≠ v2.ownBlock) v1 q2 ∧ Kd.R (Kd.int .u32) 109 w' w.heap.size (fun k_ => some k_ ≠ v1.ownBlock) v2 q3 ∧ Below w.heap.size w w'
/-- What the walk asks of its texts. -/
structure TakeIn (s W R1 R2 P R3 : ByteArray) (has : Bool) : Prop where
  hs : s.size ≤ 1099511627776
  hW : W.size ≤ s.size
  hP : P.size ≤ R2.size
  hR : R2.size ≤ s.size
  T1 : ∀ (ad : Addr) (w : World), w.cell? ad = some (.func (.func 91) #[] #[]) → Calls Tryz.prog 92 #[.string s, .pointer (some ad)] w fun e w' => e = .returned (.string W) ∧ Below w.heap.size w w'
  hR1 : s.extract W.size s.size = R1
  cp : strings_CutPrefix.f R1 ⟨#[46]⟩ = some (R2, has)
  T3 : has = true → ∀ (ad : Addr) (w : World), w.cell? ad = some (.func (.func 91) #[] #[]) → Calls Tryz.prog 92 #[.string R2, .pointer (some ad)] w fun e w' => e = .returned (.string P) ∧ Below w.heap.size w w'
  hN : has = false → P = ⟨#[]⟩ ∧ R3 = R2
  hR3 : has = true → R2.extract P.size R2.size = R3
end Go.Proofs.YtioofhilohmfbaaGreatDoor
end
section
set_option linter.unusedVariables false
set_option linter.unusedSimpArgs false
namespace Go.Proofs.YtioofhilohmfbaaGreatDoor
open Go Go.RowKit Go.Lib Go.Proofs.YtioofhilohmfbaaGreatDoorW.PrintWords Go.Proofs.YtioofhilohmfbaaGreatDoorW.PrintLast Go.Proofs.YtioofhilohmfbaaGreatDoorW.PrintMore Go.Proofs.YtioofhilohmfbaaGreatDoor.P
attribute [local go_sem] store_func
set_option maxRecDepth 100000 in
set_option maxHeartbeats 8000000 in
theorem takeA_F (s W R1 R2 P R3 : ByteArray) (w : World) (hin : TakeIn s W R1 R2 P R3 false) (h0 : W.toList = []) :
    Calls Tryz.prog 67 #[.string s] w (TakeNo w) := by
  obtain ⟨hs, hWs, hPs, hRs, t1, hR1, hcp, t3, hN, hR3⟩ := hin
  have p1 : ((W.size : Int) ≤ (s.size : Int)) = True := eq_true (by omega)
  have p2 : ((P.size : Int) ≤ (R2.size : Int)) = True := eq_true (by omega)
  have hWb : W.size ≤ 1099511627776 := by omega
  have hPb : P.size ≤ 1099511627776 := by omega
  have T1 := Aside0.mk t1
  have CP := Aside0.mk hcp
  obtain ⟨rfl, rfl⟩ := hN rfl
  clear t3 hN hR3 t1 hcp hWs hPs hRs hs
  have h0b : W.toList.isEmpty = true := by rw [h0]; rfl
  · skip
    go_enter Tryz.func67, Tryz.ntmps67
    go_wp2_with (first
      | (go_at_call 92; (with_reducible refine (T1.out _ _ ?hc).mono ?_); (case hc => exact fn_cell _ _ _ _); rintro e w1 ⟨rfl, hb⟩; have RB1 := Aside0.mk (RB.below (RB.new w _ _) hb); have FC := Aside0.mk (pw_cell_below hb (fn_cell w _ _ _)); have HB := Aside0.mk (below_step (below2 w _ _) hb); clear hb)
      | (go_at_call 65; (with_reducible refine (strings_CutPrefix.calls R1 _ _ _ _ CP.out).mono ?_); rintro e w2 ⟨rfl, hb⟩; have RB2 := Aside0.mk (RB1.out.below hb); have FC2 := Aside0.mk (pw_cell_below hb FC.out); have HB2 := Aside0.mk (below_step HB.out hb); clear hb RB1 HB FC; obtain ⟨hc0, hc1, hc2, hf0, hf1, hf2⟩ := RB2.out.cells))
    refine bodyPost_ret (results_ctt rfl _ _ w.heap.size 41 #[.bool false, .slice none 0 0, .slice none 0 0] (0, 0) _ rfl (RB.put RB2.out false (.slice none 0 0) (.slice none 0 0)) Tryz.underlying41 rfl (by kernel_rfl)) rfl ?_
    exact ⟨rfl, below_put HB2.out _ _ _⟩
end Go.Proofs.YtioofhilohmfbaaGreatDoor
end
section
set_option linter.unusedVariables false
set_option linter.unusedSimpArgs false
namespace Go.Proofs.YtioofhilohmfbaaGreatDoor
open Go Go.RowKit Go.Lib Go.Proofs.YtioofhilohmfbaaGreatDoorW.PrintWords Go.Proofs.YtioofhilohmfbaaGreatDoorW.PrintLast Go.Proofs.YtioofhilohmfbaaGreatDoorW.PrintMore Go.Proofs.YtioofhilohmfbaaGreatDoor.P
attribute [local go_sem] store_func
set_option maxRecDepth 100000 in
set_option maxHeartbeats 8000000 in
theorem takeB_F (s W R1 R2 P R3 : ByteArray) (w : World) (hin : TakeIn s W R1 R2 P R3 false) (h0 : W.toList ≠ []) (h1 : 1 < W.size) (hw : ∀ h : 0 < W.size, ((W[0]'h).toNat : Int) = 48) :
    Calls Tryz.prog 67 #[.string s] w (TakeNo w) := by
  obtain ⟨hs, hWs, hPs, hRs, t1, hR1, hcp, t3, hN, hR3⟩ := hin
  have p1 : ((W.size : Int) ≤ (s.size : Int)) = True := eq_true (by omega)
  have p2 : ((P.size : Int) ≤ (R2.size : Int)) = True := eq_true (by omega)
  have hWb : W.size ≤ 1099511627776 := by omega
  have hPb : P.size ≤ 1099511627776 := by omega
  have T1 := Aside0.mk t1
  have CP := Aside0.mk hcp
  obtain ⟨rfl, rfl⟩ := hN rfl
  clear t3 hN hR3 t1 hcp hWs hPs hRs hs
  have h0b : W.toList.isEmpty = false := by cases h : W.toList with | nil => exact absurd h h0 | cons a l => rfl
  have c1 : (1 : Int) < (W.size : Int) := by omega
  have c2 : 0 < W.size := by omega
  · skip
    go_enter Tryz.func67, Tryz.ntmps67
    go_wp2_with (first
      | (go_at_call 92; (with_reducible refine (T1.out _ _ ?hc).mono ?_); (case hc => exact fn_cell _ _ _ _); rintro e w1 ⟨rfl, hb⟩; have RB1 := Aside0.mk (RB.below (RB.new w _ _) hb); have FC := Aside0.mk (pw_cell_below hb (fn_cell w _ _ _)); have HB := Aside0.mk (below_step (below2 w _ _) hb); clear hb)
      | (go_at_call 65; (with_reducible refine (strings_CutPrefix.calls R1 _ _ _ _ CP.out).mono ?_); rintro e w2 ⟨rfl, hb⟩; have RB2 := Aside0.mk (RB1.out.below hb); have FC2 := Aside0.mk (pw_cell_below hb FC.out); have HB2 := Aside0.mk (below_step HB.out hb); clear hb RB1 HB FC; obtain ⟨hc0, hc1, hc2, hf0, hf1, hf2⟩ := RB2.out.cells))
    refine bodyPost_ret (results_ctt rfl _ _ w.heap.size 41 #[.bool false, .slice none 0 0, .slice none 0 0] (0, 0) _ rfl (RB.put RB2.out false (.slice none 0 0) (.slice none 0 0)) Tryz.underlying41 rfl (by kernel_rfl)) rfl ?_
    exact ⟨rfl, below_put HB2.out _ _ _⟩
end Go.Proofs.YtioofhilohmfbaaGreatDoor
end
section
set_option linter.unusedVariables false
set_option linter.unusedSimpArgs false
namespace Go.Proofs.YtioofhilohmfbaaGreatDoor
open Go Go.RowKit Go.Lib Go.Proofs.YtioofhilohmfbaaGreatDoorW.PrintWords Go.Proofs.YtioofhilohmfbaaGreatDoorW.PrintLast Go.Proofs.YtioofhilohmfbaaGreatDoorW.PrintMore Go.Proofs.YtioofhilohmfbaaGreatDoor.P
attribute [local go_sem] store_func
set_option maxRecDepth 100000 in
set_option maxHeartbeats 8000000 in
theorem takeCl_F (s W R1 R2 P R3 : ByteArray) (w : World) (hin : TakeIn s W R1 R2 P R3 false) (h0 : W.toList ≠ []) (h1 : 1 < W.size) (hw : ∀ h : 0 < W.size, ¬ ((W[0]'h).toNat : Int) = 48) (hl : 40 < W.size) :
    Calls Tryz.prog 67 #[.string s] w (TakeNo w) := by
  obtain ⟨hs, hWs, hPs, hRs, t1, hR1, hcp, t3, hN, hR3⟩ := hin
  have p1 : ((W.size : Int) ≤ (s.size : Int)) = True := eq_true (by omega)
  have p2 : ((P.size : Int) ≤ (R2.size : Int)) = True := eq_true (by omega)
  have hWb : W.size ≤ 1099511627776 := by omega
  have hPb : P.size ≤ 1099511627776 := by omega
  have T1 := Aside0.mk t1
  have CP := Aside0.mk hcp
  obtain ⟨rfl, rfl⟩ := hN rfl
  clear t3 hN hR3 t1 hcp hWs hPs hRs hs
  have h0b : W.toList.isEmpty = false := by cases h : W.toList with | nil => exact absurd h h0 | cons a l => rfl
  have c1 : (1 : Int) < (W.size : Int) := by omega
  have c2 : 0 < W.size := by omega
  have hwb : ∀ h : 0 < W.size, (((W[0]'h).toNat : Int) == 48) = false := fun h => beq_eq_false_iff_ne.2 (hw h)
  have hl2 : (40 : Int) < (W.size : Int) := by omega
  · skip
    go_enter Tryz.func67, Tryz.ntmps67
    go_wp2_with (first
      | (go_at_call 92; (with_reducible refine (T1.out _ _ ?hc).mono ?_); (case hc => exact fn_cell _ _ _ _); rintro e w1 ⟨rfl, hb⟩; have RB1 := Aside0.mk (RB.below (RB.new w _ _) hb); have FC := Aside0.mk (pw_cell_below hb (fn_cell w _ _ _)); have HB := Aside0.mk (below_step (below2 w _ _) hb); clear hb)
      | (go_at_call 65; (with_reducible refine (strings_CutPrefix.calls R1 _ _ _ _ CP.out).mono ?_); rintro e w2 ⟨rfl, hb⟩; have RB2 := Aside0.mk (RB1.out.below hb); have FC2 := Aside0.mk (pw_cell_below hb FC.out); have HB2 := Aside0.mk (below_step HB.out hb); clear hb RB1 HB FC; obtain ⟨hc0, hc1, hc2, hf0, hf1, hf2⟩ := RB2.out.cells))
    refine bodyPost_ret (results_ctt rfl _ _ w.heap.size 41 #[.bool false, .slice none 0 0, .slice none 0 0] (0, 0) _ rfl (RB.put RB2.out false (.slice none 0 0) (.slice none 0 0)) Tryz.underlying41 rfl (by kernel_rfl)) rfl ?_
    exact ⟨rfl, below_put HB2.out _ _ _⟩
end Go.Proofs.YtioofhilohmfbaaGreatDoor
end
section
set_option linter.unusedVariables false
set_option linter.unusedSimpArgs false
namespace Go.Proofs.YtioofhilohmfbaaGreatDoor
open Go Go.RowKit Go.Lib Go.Proofs.YtioofhilohmfbaaGreatDoorW.PrintWords Go.Proofs.YtioofhilohmfbaaGreatDoorW.PrintLast Go.Proofs.YtioofhilohmfbaaGreatDoorW.PrintMore Go.Proofs.YtioofhilohmfbaaGreatDoor.P
attribute [local go_sem] store_func
set_option maxRecDepth 100000 in
set_option maxHeartbeats 8000000 in
theorem takeCg_F (s W R1 R2 P R3 : ByteArray) (w : World) (hin : TakeIn s W R1 R2 P R3 false) (h0 : W.toList ≠ []) (h1 : 1 < W.size) (hw : ∀ h : 0 < W.size, ¬ ((W[0]'h).toNat : Int) = 48) (hl : W.size + P.size ≤ 40) (T Z T2 : ByteArray) (q1 : Bool) (q2 q3 l2 l3 : List Int) (kr kd kn : Nat) (g1 : strings_TrimLeft.f (W ++ P) ⟨#[48]⟩ = some T) (hT2 : (T.toList = [] ∧ T2 = ⟨#[48]⟩) ∨ (T.toList ≠ [] ∧ T2 = T)) (g2 : nat_Read.f kr T2 = some (l2, 0)) (g3 : strings_Repeat.f ⟨#[48]⟩ (P.size : Int) = some Z) (hZ : Z.size ≤ 1000000) (g4 : nat_Read.f kd (⟨#[49]⟩ ++ Z) = some (l3, 0)) (g5 : rat_New.f kn false l2 l3 = some (q1, q2, q3, 0)) :
    Calls Tryz.prog 67 #[.string s] w (TakeYes w R3 q1 q2 q3) := by
  obtain ⟨hs, hWs, hPs, hRs, t1, hR1, hcp, t3, hN, hR3⟩ := hin
  have p1 : ((W.size : Int) ≤ (s.size : Int)) = True := eq_true (by omega)
  have p2 : ((P.size : Int) ≤ (R2.size : Int)) = True := eq_true (by omega)
  have hWb : W.size ≤ 1099511627776 := by omega
  have hPb : P.size ≤ 1099511627776 := by omega
  have T1 := Aside0.mk t1
  have CP := Aside0.mk hcp
  obtain ⟨rfl, rfl⟩ := hN rfl
  clear t3 hN hR3 t1 hcp hWs hPs hRs hs
  have G1 := Aside0.mk g1
  have G2 := Aside0.mk g2
  have G3 := Aside0.mk (show strings_Repeat.f ⟨#[48]⟩ 0 = some Z from g3)
  have G4 := Aside0.mk g4
  have G5 := Aside0.mk g5
  clear g1 g2 g3 g4 g5
  have h0b : W.toList.isEmpty = false := by cases h : W.toList with | nil => exact absurd h h0 | cons a l => rfl
  have c1 : (1 : Int) < (W.size : Int) := by omega
  have c2 : 0 < W.size := by omega
  have hwb : ∀ h : 0 < W.size, (((W[0]'h).toNat : Int) == 48) = false := fun h => beq_eq_false_iff_ne.2 (hw h)
  have hl2 : (W.size : Int) ≤ 40 := by have : (⟨#[]⟩ : ByteArray).size = 0 := rfl; omega
  clear hl
  rcases hT2 with ⟨hT, rfl⟩ | ⟨hT, e⟩
  · skip
    go_enter Tryz.func67, Tryz.ntmps67
    go_wp2_with (first
      | (go_at_call 92; (with_reducible refine (T1.out _ _ ?hc).mono ?_); (case hc => exact fn_cell _ _ _ _); rintro e w1 ⟨rfl, hb⟩; have RB1 := Aside0.mk (RB.below (RB.new w _ _) hb); have FC := Aside0.mk (pw_cell_below hb (fn_cell w _ _ _)); have HB := Aside0.mk (below_step (below2 w _ _) hb); clear hb)
      | (go_at_call 65; (with_reducible refine (strings_CutPrefix.calls R1 _ _ _ _ CP.out).mono ?_); rintro e w2 ⟨rfl, hb⟩; have RB2 := Aside0.mk (RB1.out.below hb); have FC2 := Aside0.mk (pw_cell_below hb FC.out); have HB2 := Aside0.mk (below_step HB.out hb); clear hb RB1 HB FC)
      | (go_at_call 94; (with_reducible refine (strings_TrimLeft.calls _ _ _ _ G1.out).mono ?_); rintro e w3 ⟨rfl, hb⟩; have RB3 := Aside0.mk (RB2.out.below hb); have HB3 := Aside0.mk (below_step HB2.out hb); clear hb RB2 HB2)
      | (go_at_call 95; (with_reducible refine (nat_Read.calls kr _ l2 0 _ G2.out).mono ?_); rintro e w5 ⟨v5, rfl, ho, hb⟩; have RB5 := Aside0.mk (RB3.out.below hb); have HO5 := Aside0.mk ho; have HB5 := Aside0.mk (below_step HB3.out hb); clear ho hb RB3 HB3; obtain ⟨A5, c5, e5⟩ := Kd.V_slice HO5.out; subst e5)
      | (go_at_call 17; (with_reducible refine (strings_Repeat.calls _ _ Z _ G3.out).mono ?_); rintro e w6 ⟨rfl, hb⟩; have RB6 := Aside0.mk (RB5.out.below hb); have HO6 := Aside0.mk (Kd.V_below HO5.out hb); have HB6 := Aside0.mk (below_step HB5.out hb); clear hb RB5 HB5 HO5)
      | (go_at_call 95; (with_reducible refine (nat_Read.calls kd (⟨#[49]⟩ ++ Z) l3 0 _ G4.out).mono ?_); rintro e w7 ⟨v7, rfl, ho, hb⟩; have RB7 := Aside0.mk (RB6.out.below hb); have HO7 := Aside0.mk (Kd.V_below HO6.out hb); have HO8 := Aside0.mk ho; have HB7 := Aside0.mk (below_step HB6.out hb); clear ho hb RB6 HB6 HO6; obtain ⟨A7, c7, e7⟩ := Kd.V_slice HO8.out; subst e7)
      | (go_at_call 96; (with_reducible refine (rat_New.calls kn false _ _ l2 _ _ l3 q1 q2 q3 0 _ (Kd.V_reads' HO7.out).2.2 (Kd.V_reads' HO7.out).2.1 (Kd.V_reads' HO8.out).2.2 (Kd.V_reads' HO8.out).2.1 G5.out).mono ?_); rintro e w9 ⟨v1, v2, rfl, h1, h2, hb⟩; have RB9 := Aside0.mk (RB7.out.below hb); have Q1 := Aside0.mk h1; have Q2 := Aside0.mk h2; have HS := Aside0.mk (below_size HB7.out); have LT := Aside0.mk (blk_lt RB7.out); have HB9 := Aside0.mk (below_step HB7.out hb); clear h1 h2 hb RB7 HB7 HO7 HO8; obtain ⟨hc0, hc1, hc2, hf0, hf1, hf2⟩ := RB9.out.cells; obtain ⟨B1, d1, f1⟩ := Kd.R_slice Q1.out; subst f1; obtain ⟨B2, d2, f2⟩ := Kd.R_slice Q2.out; subst f2))
    refine bodyPost_ret (results_ctt rfl _ _ w.heap.size 41 #[.bool q1, .slice B1 q2.length d1, .slice B2 q3.length d2] (0, 0) _ rfl (RB.put2 (RB.put RB9.out _ _ _)) Tryz.underlying41 rfl (by kernel_rfl)) rfl ?_
    exact ⟨_, _, rfl, Kd.R_lower (R_put3 (R_put3 Q1.out LT.out _ _ _) LT.out _ _ _) HS.out, Kd.R_lower (R_put3 (R_put3 Q2.out LT.out _ _ _) LT.out _ _ _) HS.out, below_put (below_put HB9.out _ _ _) _ _ _⟩
  · have hTb : T2.toList.isEmpty = false := by rw [e]; cases h : T.toList with | nil => exact absurd h hT | cons a l => rfl
    clear hT
    subst e
    go_enter Tryz.func67, Tryz.ntmps67
    go_wp2_with (first
      | (go_at_call 92; (with_reducible refine (T1.out _ _ ?hc).mono ?_); (case hc => exact fn_cell _ _ _ _); rintro e w1 ⟨rfl, hb⟩; have RB1 := Aside0.mk (RB.below (RB.new w _ _) hb); have FC := Aside0.mk (pw_cell_below hb (fn_cell w _ _ _)); have HB := Aside0.mk (below_step (below2 w _ _) hb); clear hb)
      | (go_at_call 65; (with_reducible refine (strings_CutPrefix.calls R1 _ _ _ _ CP.out).mono ?_); rintro e w2 ⟨rfl, hb⟩; have RB2 := Aside0.mk (RB1.out.below hb); have FC2 := Aside0.mk (pw_cell_below hb FC.out); have HB2 := Aside0.mk (below_step HB.out hb); clear hb RB1 HB FC)
      | (go_at_call 94; (with_reducible refine (strings_TrimLeft.calls _ _ _ _ G1.out).mono ?_); rintro e w3 ⟨rfl, hb⟩; have RB3 := Aside0.mk (RB2.out.below hb); have HB3 := Aside0.mk (below_step HB2.out hb); clear hb RB2 HB2)
      | (go_at_call 95; (with_reducible refine (nat_Read.calls kr _ l2 0 _ G2.out).mono ?_); rintro e w5 ⟨v5, rfl, ho, hb⟩; have RB5 := Aside0.mk (RB3.out.below hb); have HO5 := Aside0.mk ho; have HB5 := Aside0.mk (below_step HB3.out hb); clear ho hb RB3 HB3; obtain ⟨A5, c5, e5⟩ := Kd.V_slice HO5.out; subst e5)
      | (go_at_call 17; (with_reducible refine (strings_Repeat.calls _ _ Z _ G3.out).mono ?_); rintro e w6 ⟨rfl, hb⟩; have RB6 := Aside0.mk (RB5.out.below hb); have HO6 := Aside0.mk (Kd.V_below HO5.out hb); have HB6 := Aside0.mk (below_step HB5.out hb); clear hb RB5 HB5 HO5)
      | (go_at_call 95; (with_reducible refine (nat_Read.calls kd (⟨#[49]⟩ ++ Z) l3 0 _ G4.out).mono ?_); rintro e w7 ⟨v7, rfl, ho, hb⟩; have RB7 := Aside0.mk (RB6.out.below hb); have HO7 := Aside0.mk (Kd.V_below HO6.out hb); have HO8 := Aside0.mk ho; have HB7 := Aside0.mk (below_step HB6.out hb); clear ho hb RB6 HB6 HO6; obtain ⟨A7, c7, e7⟩ := Kd.V_slice HO8.out; subst e7)
      | (go_at_call 96; (with_reducible refine (rat_New.calls kn false _ _ l2 _ _ l3 q1 q2 q3 0 _ (Kd.V_reads' HO7.out).2.2 (Kd.V_reads' HO7.out).2.1 (Kd.V_reads' HO8.out).2.2 (Kd.V_reads' HO8.out).2.1 G5.out).mono ?_); rintro e w9 ⟨v1, v2, rfl, h1, h2, hb⟩; have RB9 := Aside0.mk (RB7.out.below hb); have Q1 := Aside0.mk h1; have Q2 := Aside0.mk h2; have HS := Aside0.mk (below_size HB7.out); have LT := Aside0.mk (blk_lt RB7.out); have HB9 := Aside0.mk (below_step HB7.out hb); clear h1 h2 hb RB7 HB7 HO7 HO8; obtain ⟨hc0, hc1, hc2, hf0, hf1, hf2⟩ := RB9.out.cells; obtain ⟨B1, d1, f1⟩ := Kd.R_slice Q1.out; subst f1; obtain ⟨B2, d2, f2⟩ := Kd.R_slice Q2.out; subst f2))
    refine bodyPost_ret (results_ctt rfl _ _ w.heap.size 41 #[.bool q1, .slice B1 q2.length d1, .slice B2 q3.length d2] (0, 0) _ rfl (RB.put2 (RB.put RB9.out _ _ _)) Tryz.underlying41 rfl (by kernel_rfl)) rfl ?_
    exact ⟨_, _, rfl, Kd.R_lower (R_put3 (R_put3 Q1.out LT.out _ _ _) LT.out _ _ _) HS.out, Kd.R_lower (R_put3 (R_put3 Q2.out LT.out _ _ _) LT.out _ _ _) HS.out, below_put (below_put HB9.out _ _ _) _ _ _⟩
end Go.Proofs.YtioofhilohmfbaaGreatDoor
end
section
set_option linter.unusedVariables false
set_option linter.unusedSimpArgs false
namespace Go.Proofs.YtioofhilohmfbaaGreatDoor
open Go Go.RowKit Go.Lib Go.Proofs.YtioofhilohmfbaaGreatDoorW.PrintWords Go.Proofs.YtioofhilohmfbaaGreatDoorW.PrintLast Go.Proofs.YtioofhilohmfbaaGreatDoorW.PrintMore Go.Proofs.YtioofhilohmfbaaGreatDoor.P
attribute [local go_sem] store_func
set_option maxRecDepth 100000 in
set_option maxHeartbeats 8000000 in
theorem takeDg_F (s W R1 R2 P R3 : ByteArray) (w : World) (hin : TakeIn s W R1 R2 P R3 false) (h0 : W.toList ≠ []) (h1 : W.size = 1) (hl : W.size + P.size ≤ 40) (T Z T2 : ByteArray) (q1 : Bool) (q2 q3 l2 l3 : List Int) (kr kd kn : Nat) (g1 : strings_TrimLeft.f (W ++ P) ⟨#[48]⟩ = some T) (hT2 : (T.toList = [] ∧ T2 = ⟨#[48]⟩) ∨ (T.toList ≠ [] ∧ T2 = T)) (g2 : nat_Read.f kr T2 = some (l2, 0)) (g3 : strings_Repeat.f ⟨#[48]⟩ (P.size : Int) = some Z) (hZ : Z.size ≤ 1000000) (g4 : nat_Read.f kd (⟨#[49]⟩ ++ Z) = some (l3, 0)) (g5 : rat_New.f kn false l2 l3 = some (q1, q2, q3, 0)) :
    Calls Tryz.prog 67 #[.string s] w (TakeYes w R3 q1 q2 q3) := by
  obtain ⟨hs, hWs, hPs, hRs, t1, hR1, hcp, t3, hN, hR3⟩ := hin
  have p1 : ((W.size : Int) ≤ (s.size : Int)) = True := eq_true (by omega)
  have p2 : ((P.size : Int) ≤ (R2.size : Int)) = True := eq_true (by omega)
  have hWb : W.size ≤ 1099511627776 := by omega
  have hPb : P.size ≤ 1099511627776 := by omega
  have T1 := Aside0.mk t1
  have CP := Aside0.mk hcp
  obtain ⟨rfl, rfl⟩ := hN rfl
  clear t3 hN hR3 t1 hcp hWs hPs hRs hs
  have G1 := Aside0.mk g1
  have G2 := Aside0.mk g2
  have G3 := Aside0.mk (show strings_Repeat.f ⟨#[48]⟩ 0 = some Z from g3)
  have G4 := Aside0.mk g4
  have G5 := Aside0.mk g5
  clear g1 g2 g3 g4 g5
  have h0b : W.toList.isEmpty = false := by cases h : W.toList with | nil => exact absurd h h0 | cons a l => rfl
  have c1 : ¬ (1 : Int) < (W.size : Int) := by omega
  have c3 : ((W.size : Nat) : Int) ≤ 1 := by omega
  clear h1
  have hl2 : (W.size : Int) ≤ 40 := by have : (⟨#[]⟩ : ByteArray).size = 0 := rfl; omega
  clear hl
  rcases hT2 with ⟨hT, rfl⟩ | ⟨hT, e⟩
  · skip
    go_enter Tryz.func67, Tryz.ntmps67
    go_wp2_with (first
      | (go_at_call 92; (with_reducible refine (T1.out _ _ ?hc).mono ?_); (case hc => exact fn_cell _ _ _ _); rintro e w1 ⟨rfl, hb⟩; have RB1 := Aside0.mk (RB.below (RB.new w _ _) hb); have FC := Aside0.mk (pw_cell_below hb (fn_cell w _ _ _)); have HB := Aside0.mk (below_step (below2 w _ _) hb); clear hb)
      | (go_at_call 65; (with_reducible refine (strings_CutPrefix.calls R1 _ _ _ _ CP.out).mono ?_); rintro e w2 ⟨rfl, hb⟩; have RB2 := Aside0.mk (RB1.out.below hb); have FC2 := Aside0.mk (pw_cell_below hb FC.out); have HB2 := Aside0.mk (below_step HB.out hb); clear hb RB1 HB FC)
      | (go_at_call 94; (with_reducible refine (strings_TrimLeft.calls _ _ _ _ G1.out).mono ?_); rintro e w3 ⟨rfl, hb⟩; have RB3 := Aside0.mk (RB2.out.below hb); have HB3 := Aside0.mk (below_step HB2.out hb); clear hb RB2 HB2)
      | (go_at_call 95; (with_reducible refine (nat_Read.calls kr _ l2 0 _ G2.out).mono ?_); rintro e w5 ⟨v5, rfl, ho, hb⟩; have RB5 := Aside0.mk (RB3.out.below hb); have HO5 := Aside0.mk ho; have HB5 := Aside0.mk (below_step HB3.out hb); clear ho hb RB3 HB3; obtain ⟨A5, c5, e5⟩ := Kd.V_slice HO5.out; subst e5)
      | (go_at_call 17; (with_reducible refine (strings_Repeat.calls _ _ Z _ G3.out).mono ?_); rintro e w6 ⟨rfl, hb⟩; have RB6 := Aside0.mk (RB5.out.below hb); have HO6 := Aside0.mk (Kd.V_below HO5.out hb); have HB6 := Aside0.mk (below_step HB5.out hb); clear hb RB5 HB5 HO5)
      | (go_at_call 95; (with_reducible refine (nat_Read.calls kd (⟨#[49]⟩ ++ Z) l3 0 _ G4.out).mono ?_); rintro e w7 ⟨v7, rfl, ho, hb⟩; have RB7 := Aside0.mk (RB6.out.below hb); have HO7 := Aside0.mk (Kd.V_below HO6.out hb); have HO8 := Aside0.mk ho; have HB7 := Aside0.mk (below_step HB6.out hb); clear ho hb RB6 HB6 HO6; obtain ⟨A7, c7, e7⟩ := Kd.V_slice HO8.out; subst e7)
      | (go_at_call 96; (with_reducible refine (rat_New.calls kn false _ _ l2 _ _ l3 q1 q2 q3 0 _ (Kd.V_reads' HO7.out).2.2 (Kd.V_reads' HO7.out).2.1 (Kd.V_reads' HO8.out).2.2 (Kd.V_reads' HO8.out).2.1 G5.out).mono ?_); rintro e w9 ⟨v1, v2, rfl, h1, h2, hb⟩; have RB9 := Aside0.mk (RB7.out.below hb); have Q1 := Aside0.mk h1; have Q2 := Aside0.mk h2; have HS := Aside0.mk (below_size HB7.out); have LT := Aside0.mk (blk_lt RB7.out); have HB9 := Aside0.mk (below_step HB7.out hb); clear h1 h2 hb RB7 HB7 HO7 HO8; obtain ⟨hc0, hc1, hc2, hf0, hf1, hf2⟩ := RB9.out.cells; obtain ⟨B1, d1, f1⟩ := Kd.R_slice Q1.out; subst f1; obtain ⟨B2, d2, f2⟩ := Kd.R_slice Q2.out; subst f2))
    refine bodyPost_ret (results_ctt rfl _ _ w.heap.size 41 #[.bool q1, .slice B1 q2.length d1, .slice B2 q3.length d2] (0, 0) _ rfl (RB.put2 (RB.put RB9.out _ _ _)) Tryz.underlying41 rfl (by kernel_rfl)) rfl ?_
    exact ⟨_, _, rfl, Kd.R_lower (R_put3 (R_put3 Q1.out LT.out _ _ _) LT.out _ _ _) HS.out, Kd.R_lower (R_put3 (R_put3 Q2.out LT.out _ _ _) LT.out _ _ _) HS.out, below_put (below_put HB9.out _ _ _) _ _ _⟩
  · have hTb : T2.toList.isEmpty = false := by rw [e]; cases h : T.toList with | nil => exact absurd h hT | cons a l => rfl
    clear hT
    subst e
    go_enter Tryz.func67, Tryz.ntmps67
    go_wp2_with (first
      | (go_at_call 92; (with_reducible refine (T1.out _ _ ?hc).mono ?_); (case hc => exact fn_cell _ _ _ _); rintro e w1 ⟨rfl, hb⟩; have RB1 := Aside0.mk (RB.below (RB.new w _ _) hb); have FC := Aside0.mk (pw_cell_below hb (fn_cell w _ _ _)); have HB := Aside0.mk (below_step (below2 w _ _) hb); clear hb)
      | (go_at_call 65; (with_reducible refine (strings_CutPrefix.calls R1 _ _ _ _ CP.out).mono ?_); rintro e w2 ⟨rfl, hb⟩; have RB2 := Aside0.mk (RB1.out.below hb); have FC2 := Aside0.mk (pw_cell_below hb FC.out); have HB2 := Aside0.mk (below_step HB.out hb); clear hb RB1 HB FC)
      | (go_at_call 94; (with_reducible refine (strings_TrimLeft.calls _ _ _ _ G1.out).mono ?_); rintro e w3 ⟨rfl, hb⟩; have RB3 := Aside0.mk (RB2.out.below hb); have HB3 := Aside0.mk (below_step HB2.out hb); clear hb RB2 HB2)
      | (go_at_call 95; (with_reducible refine (nat_Read.calls kr _ l2 0 _ G2.out).mono ?_); rintro e w5 ⟨v5, rfl, ho, hb⟩; have RB5 := Aside0.mk (RB3.out.below hb); have HO5 := Aside0.mk ho; have HB5 := Aside0.mk (below_step HB3.out hb); clear ho hb RB3 HB3; obtain ⟨A5, c5, e5⟩ := Kd.V_slice HO5.out; subst e5)
      | (go_at_call 17; (with_reducible refine (strings_Repeat.calls _ _ Z _ G3.out).mono ?_); rintro e w6 ⟨rfl, hb⟩; have RB6 := Aside0.mk (RB5.out.below hb); have HO6 := Aside0.mk (Kd.V_below HO5.out hb); have HB6 := Aside0.mk (below_step HB5.out hb); clear hb RB5 HB5 HO5)
      | (go_at_call 95; (with_reducible refine (nat_Read.calls kd (⟨#[49]⟩ ++ Z) l3 0 _ G4.out).mono ?_); rintro e w7 ⟨v7, rfl, ho, hb⟩; have RB7 := Aside0.mk (RB6.out.below hb); have HO7 := Aside0.mk (Kd.V_below HO6.out hb); have HO8 := Aside0.mk ho; have HB7 := Aside0.mk (below_step HB6.out hb); clear ho hb RB6 HB6 HO6; obtain ⟨A7, c7, e7⟩ := Kd.V_slice HO8.out; subst e7)
      | (go_at_call 96; (with_reducible refine (rat_New.calls kn false _ _ l2 _ _ l3 q1 q2 q3 0 _ (Kd.V_reads' HO7.out).2.2 (Kd.V_reads' HO7.out).2.1 (Kd.V_reads' HO8.out).2.2 (Kd.V_reads' HO8.out).2.1 G5.out).mono ?_); rintro e w9 ⟨v1, v2, rfl, h1, h2, hb⟩; have RB9 := Aside0.mk (RB7.out.below hb); have Q1 := Aside0.mk h1; have Q2 := Aside0.mk h2; have HS := Aside0.mk (below_size HB7.out); have LT := Aside0.mk (blk_lt RB7.out); have HB9 := Aside0.mk (below_step HB7.out hb); clear h1 h2 hb RB7 HB7 HO7 HO8; obtain ⟨hc0, hc1, hc2, hf0, hf1, hf2⟩ := RB9.out.cells; obtain ⟨B1, d1, f1⟩ := Kd.R_slice Q1.out; subst f1; obtain ⟨B2, d2, f2⟩ := Kd.R_slice Q2.out; subst f2))
    refine bodyPost_ret (results_ctt rfl _ _ w.heap.size 41 #[.bool q1, .slice B1 q2.length d1, .slice B2 q3.length d2] (0, 0) _ rfl (RB.put2 (RB.put RB9.out _ _ _)) Tryz.underlying41 rfl (by kernel_rfl)) rfl ?_
    exact ⟨_, _, rfl, Kd.R_lower (R_put3 (R_put3 Q1.out LT.out _ _ _) LT.out _ _ _) HS.out, Kd.R_lower (R_put3 (R_put3 Q2.out LT.out _ _ _) LT.out _ _ _) HS.out, below_put (below_put HB9.out _ _ _) _ _ _⟩
end Go.Proofs.YtioofhilohmfbaaGreatDoor
end
