/- Parts of the proof: the walks and laws that the last text of this claim rests on. No condition beyond each one's own. -/
import Derived.Test.YtioofhilohmfbaaGreatDoorBAll4
section
set_option linter.unusedVariables false
set_option linter.unusedSimpArgs false
namespace Go.Proofs.YtioofhilohmfbaaGreatDoor
open Go Go.RowKit Go.Lib Go.Proofs.YtioofhilohmfbaaGreatDoorW.PrintWords Go.Proofs.YtioofhilohmfbaaGreatDoorW.PrintLast Go.Proofs.YtioofhilohmfbaaGreatDoorW.PrintMore Go.Proofs.YtioofhilohmfbaaGreatDoor.P
attribute [local go_sem] store_func
set_option maxRecDepth 100000 in
set_option maxHeartbeats 8000000 in
theorem takeA_T (s W R1 R2 P R3 : ByteArray) (w : World) (hin : TakeIn s W R1 R2 P R3 true) (h0 : W.toList = []) :
    Calls Tryz.prog 67 #[.string s] w (TakeNo w) := by
  obtain ⟨hs, hWs, hPs, hRs, t1, hR1, hcp, t3, hN, hR3⟩ := hin
  have p1 : ((W.size : Int) ≤ (s.size : Int)) = True := eq_true (by omega)
  have p2 : ((P.size : Int) ≤ (R2.size : Int)) = True := eq_true (by omega)
  have hWb : W.size ≤ 1099511627776 := by omega
  have hPb : P.size ≤ 1099511627776 := by omega
  have T1 := Aside0.mk t1
  have CP := Aside0.mk hcp
  have T3 := Aside0.mk (t3 rfl)
  have hR3 := hR3 rfl
  clear t3 hN t1 hcp hWs hPs hRs hs
  have h0b : W.toList.isEmpty = true := by rw [h0]; rfl
  · skip
    go_enter Tryz.func67, Tryz.ntmps67
    go_wp2_with (first
      | (go_at_call 92; (with_reducible refine (T1.out _ _ ?hc).mono ?_); (case hc => exact fn_cell _ _ _ _); rintro e w1 ⟨rfl, hb⟩; have RB1 := Aside0.mk (RB.below (RB.new w _ _) hb); have FC := Aside0.mk (pw_cell_below hb (fn_cell w _ _ _)); have HB := Aside0.mk (below_step (below2 w _ _) hb); clear hb)
      | (go_at_call 65; (with_reducible refine (strings_CutPrefix.calls R1 _ _ _ _ CP.out).mono ?_); rintro e w2 ⟨rfl, hb⟩; have RB2 := Aside0.mk (RB1.out.below hb); have FC2 := Aside0.mk (pw_cell_below hb FC.out); have HB2 := Aside0.mk (below_step HB.out hb); clear hb RB1 HB FC)
      | (go_at_call 92; (with_reducible refine (T3.out _ _ FC2.out).mono ?_); rintro e w4 ⟨rfl, hb⟩; have n0_ := Aside0.mk (RB2.out.below hb); have n1_ := Aside0.mk (below_step HB2.out hb); clear hb RB2 HB2 FC2; have RB2 := n0_; have HB2 := n1_; clear n0_ n1_; obtain ⟨hc0, hc1, hc2, hf0, hf1, hf2⟩ := RB2.out.cells))
    refine bodyPost_ret (results_ctt rfl _ _ w.heap.size 41 #[.bool false, .slice none 0 0, .slice none 0 0] (0, 0) _ rfl (RB.put RB2.out false (.slice none 0 0) (.slice none 0 0)) Tryz.underlying41 rfl (by kernel_rfl)) rfl ?_
    exact ⟨rfl, below_put HB2.out _ _ _⟩
end Go.Proofs.YtioofhilohmfbaaGreatDoor
end
section
set_option linter.unusedVariables false
set_option linter.unusedSimpArgs false
namespace Go.Proofs.YtioofhilohmfbaaGreatDoor
open Go Go.RowKit Go.Lib Go.Proofs.YtioofhilohmfbaaGreatDoorW.PrintWords Go.Proofs.YtioofhilohmfbaaGreatDoorW.PrintLast Go.Proofs.YtioofhilohmfbaaGreatDoorW.PrintMore Go.Proofs.YtioofhilohmfbaaGreatDoor.P
attribute [local go_sem] store_func
set_option maxRecDepth 100000 in
set_option maxHeartbeats 8000000 in
theorem takeB_T (s W R1 R2 P R3 : ByteArray) (w : World) (hin : TakeIn s W R1 R2 P R3 true) (h0 : W.toList ≠ []) (h1 : 1 < W.size) (hw : ∀ h : 0 < W.size, ((W[0]'h).toNat : Int) = 48) :
    Calls Tryz.prog 67 #[.string s] w (TakeNo w) := by
  obtain ⟨hs, hWs, hPs, hRs, t1, hR1, hcp, t3, hN, hR3⟩ := hin
  have p1 : ((W.size : Int) ≤ (s.size : Int)) = True := eq_true (by omega)
  have p2 : ((P.size : Int) ≤ (R2.size : Int)) = True := eq_true (by omega)
  have hWb : W.size ≤ 1099511627776 := by omega
  have hPb : P.size ≤ 1099511627776 := by omega
  have T1 := Aside0.mk t1
  have CP := Aside0.mk hcp
  have T3 := Aside0.mk (t3 rfl)
  have hR3 := hR3 rfl
  clear t3 hN t1 hcp hWs hPs hRs hs
  have h0b : W.toList.isEmpty = false := by cases h : W.toList with | nil => exact absurd h h0 | cons a l => rfl
  have c1 : (1 : Int) < (W.size : Int) := by omega
  have c2 : 0 < W.size := by omega
  · skip
    go_enter Tryz.func67, Tryz.ntmps67
    go_wp2_with (first
      | (go_at_call 92; (with_reducible refine (T1.out _ _ ?hc).mono ?_); (case hc => exact fn_cell _ _ _ _); rintro e w1 ⟨rfl, hb⟩; have RB1 := Aside0.mk (RB.below (RB.new w _ _) hb); have FC := Aside0.mk (pw_cell_below hb (fn_cell w _ _ _)); have HB := Aside0.mk (below_step (below2 w _ _) hb); clear hb)
      | (go_at_call 65; (with_reducible refine (strings_CutPrefix.calls R1 _ _ _ _ CP.out).mono ?_); rintro e w2 ⟨rfl, hb⟩; have RB2 := Aside0.mk (RB1.out.below hb); have FC2 := Aside0.mk (pw_cell_below hb FC.out); have HB2 := Aside0.mk (below_step HB.out hb); clear hb RB1 HB FC)
      | (go_at_call 92; (with_reducible refine (T3.out _ _ FC2.out).mono ?_); rintro e w4 ⟨rfl, hb⟩; have n0_ := Aside0.mk (RB2.out.below hb); have n1_ := Aside0.mk (below_step HB2.out hb); clear hb RB2 HB2 FC2; have RB2 := n0_; have HB2 := n1_; clear n0_ n1_; obtain ⟨hc0, hc1, hc2, hf0, hf1, hf2⟩ := RB2.out.cells))
    refine bodyPost_ret (results_ctt rfl _ _ w.heap.size 41 #[.bool false, .slice none 0 0, .slice none 0 0] (0, 0) _ rfl (RB.put RB2.out false (.slice none 0 0) (.slice none 0 0)) Tryz.underlying41 rfl (by kernel_rfl)) rfl ?_
    exact ⟨rfl, below_put HB2.out _ _ _⟩
end Go.Proofs.YtioofhilohmfbaaGreatDoor
end
section
set_option linter.unusedVariables false
set_option linter.unusedSimpArgs false
namespace Go.Proofs.YtioofhilohmfbaaGreatDoor
open Go Go.RowKit Go.Lib Go.Proofs.YtioofhilohmfbaaGreatDoorW.PrintWords Go.Proofs.YtioofhilohmfbaaGreatDoorW.PrintLast Go.Proofs.YtioofhilohmfbaaGreatDoorW.PrintMore Go.Proofs.YtioofhilohmfbaaGreatDoor.P
attribute [local go_sem] store_func
set_option maxRecDepth 100000 in
set_option maxHeartbeats 8000000 in
theorem takeCp_T (s W R1 R2 P R3 : ByteArray) (w : World) (hin : TakeIn s W R1 R2 P R3 true) (h0 : W.toList ≠ []) (h1 : 1 < W.size) (hw : ∀ h : 0 < W.size, ¬ ((W[0]'h).toNat : Int) = 48) (hp : P.toList = []) :
    Calls Tryz.prog 67 #[.string s] w (TakeNo w) := by
  obtain ⟨hs, hWs, hPs, hRs, t1, hR1, hcp, t3, hN, hR3⟩ := hin
  have p1 : ((W.size : Int) ≤ (s.size : Int)) = True := eq_true (by omega)
  have p2 : ((P.size : Int) ≤ (R2.size : Int)) = True := eq_true (by omega)
  have hWb : W.size ≤ 1099511627776 := by omega
  have hPb : P.size ≤ 1099511627776 := by omega
  have T1 := Aside0.mk t1
  have CP := Aside0.mk hcp
  have T3 := Aside0.mk (t3 rfl)
  have hR3 := hR3 rfl
  clear t3 hN t1 hcp hWs hPs hRs hs
  have h0b : W.toList.isEmpty = false := by cases h : W.toList with | nil => exact absurd h h0 | cons a l => rfl
  have c1 : (1 : Int) < (W.size : Int) := by omega
  have c2 : 0 < W.size := by omega
  have hwb : ∀ h : 0 < W.size, (((W[0]'h).toNat : Int) == 48) = false := fun h => beq_eq_false_iff_ne.2 (hw h)
  · skip
    go_enter Tryz.func67, Tryz.ntmps67
    go_wp2_with (first
      | (go_at_call 92; (with_reducible refine (T1.out _ _ ?hc).mono ?_); (case hc => exact fn_cell _ _ _ _); rintro e w1 ⟨rfl, hb⟩; have RB1 := Aside0.mk (RB.below (RB.new w _ _) hb); have FC := Aside0.mk (pw_cell_below hb (fn_cell w _ _ _)); have HB := Aside0.mk (below_step (below2 w _ _) hb); clear hb)
      | (go_at_call 65; (with_reducible refine (strings_CutPrefix.calls R1 _ _ _ _ CP.out).mono ?_); rintro e w2 ⟨rfl, hb⟩; have RB2 := Aside0.mk (RB1.out.below hb); have FC2 := Aside0.mk (pw_cell_below hb FC.out); have HB2 := Aside0.mk (below_step HB.out hb); clear hb RB1 HB FC)
      | (go_at_call 92; (with_reducible refine (T3.out _ _ FC2.out).mono ?_); rintro e w4 ⟨rfl, hb⟩; have n0_ := Aside0.mk (RB2.out.below hb); have n1_ := Aside0.mk (below_step HB2.out hb); clear hb RB2 HB2 FC2; have RB2 := n0_; have HB2 := n1_; clear n0_ n1_; obtain ⟨hc0, hc1, hc2, hf0, hf1, hf2⟩ := RB2.out.cells))
    refine bodyPost_ret (results_ctt rfl _ _ w.heap.size 41 #[.bool false, .slice none 0 0, .slice none 0 0] (0, 0) _ rfl (RB.put RB2.out false (.slice none 0 0) (.slice none 0 0)) Tryz.underlying41 rfl (by kernel_rfl)) rfl ?_
    exact ⟨rfl, below_put HB2.out _ _ _⟩
end Go.Proofs.YtioofhilohmfbaaGreatDoor
end
section
set_option linter.unusedVariables false
set_option linter.unusedSimpArgs false
namespace Go.Proofs.YtioofhilohmfbaaGreatDoor
open Go Go.RowKit Go.Lib Go.Proofs.YtioofhilohmfbaaGreatDoorW.PrintWords Go.Proofs.YtioofhilohmfbaaGreatDoorW.PrintLast Go.Proofs.YtioofhilohmfbaaGreatDoorW.PrintMore Go.Proofs.YtioofhilohmfbaaGreatDoor.P
attribute [local go_sem] store_func
set_option maxRecDepth 100000 in
set_option maxHeartbeats 8000000 in
theorem takeCl_T (s W R1 R2 P R3 : ByteArray) (w : World) (hin : TakeIn s W R1 R2 P R3 true) (h0 : W.toList ≠ []) (h1 : 1 < W.size) (hw : ∀ h : 0 < W.size, ¬ ((W[0]'h).toNat : Int) = 48) (hp : P.toList ≠ []) (hl : 40 < W.size + P.size) :
    Calls Tryz.prog 67 #[.string s] w (TakeNo w) := by
  obtain ⟨hs, hWs, hPs, hRs, t1, hR1, hcp, t3, hN, hR3⟩ := hin
  have p1 : ((W.size : Int) ≤ (s.size : Int)) = True := eq_true (by omega)
  have p2 : ((P.size : Int) ≤ (R2.size : Int)) = True := eq_true (by omega)
  have hWb : W.size ≤ 1099511627776 := by omega
  have hPb : P.size ≤ 1099511627776 := by omega
  have T1 := Aside0.mk t1
  have CP := Aside0.mk hcp
  have T3 := Aside0.mk (t3 rfl)
  have hR3 := hR3 rfl
  clear t3 hN t1 hcp hWs hPs hRs hs
  have h0b : W.toList.isEmpty = false := by cases h : W.toList with | nil => exact absurd h h0 | cons a l => rfl
  have c1 : (1 : Int) < (W.size : Int) := by omega
  have c2 : 0 < W.size := by omega
  have hwb : ∀ h : 0 < W.size, (((W[0]'h).toNat : Int) == 48) = false := fun h => beq_eq_false_iff_ne.2 (hw h)
  have hpb : P.toList.isEmpty = false := by cases h : P.toList with | nil => exact absurd h hp | cons a l => rfl
  have hl2 : (40 : Int) < (W.size : Int) + (P.size : Int) := by omega
  clear hl
  · skip
    go_enter Tryz.func67, Tryz.ntmps67
    go_wp2_with (first
      | (go_at_call 92; (with_reducible refine (T1.out _ _ ?hc).mono ?_); (case hc => exact fn_cell _ _ _ _); rintro e w1 ⟨rfl, hb⟩; have RB1 := Aside0.mk (RB.below (RB.new w _ _) hb); have FC := Aside0.mk (pw_cell_below hb (fn_cell w _ _ _)); have HB := Aside0.mk (below_step (below2 w _ _) hb); clear hb)
      | (go_at_call 65; (with_reducible refine (strings_CutPrefix.calls R1 _ _ _ _ CP.out).mono ?_); rintro e w2 ⟨rfl, hb⟩; have RB2 := Aside0.mk (RB1.out.below hb); have FC2 := Aside0.mk (pw_cell_below hb FC.out); have HB2 := Aside0.mk (below_step HB.out hb); clear hb RB1 HB FC)
      | (go_at_call 92; (with_reducible refine (T3.out _ _ FC2.out).mono ?_); rintro e w4 ⟨rfl, hb⟩; have n0_ := Aside0.mk (RB2.out.below hb); have n1_ := Aside0.mk (below_step HB2.out hb); clear hb RB2 HB2 FC2; have RB2 := n0_; have HB2 := n1_; clear n0_ n1_; obtain ⟨hc0, hc1, hc2, hf0, hf1, hf2⟩ := RB2.out.cells))
    refine bodyPost_ret (results_ctt rfl _ _ w.heap.size 41 #[.bool false, .slice none 0 0, .slice none 0 0] (0, 0) _ rfl (RB.put RB2.out false (.slice none 0 0) (.slice none 0 0)) Tryz.underlying41 rfl (by kernel_rfl)) rfl ?_
    exact ⟨rfl, below_put HB2.out _ _ _⟩
end Go.Proofs.YtioofhilohmfbaaGreatDoor
end
section
set_option linter.unusedVariables false
set_option linter.unusedSimpArgs false
namespace Go.Proofs.YtioofhilohmfbaaGreatDoor
open Go Go.RowKit Go.Lib Go.Proofs.YtioofhilohmfbaaGreatDoorW.PrintWords Go.Proofs.YtioofhilohmfbaaGreatDoorW.PrintLast Go.Proofs.YtioofhilohmfbaaGreatDoorW.PrintMore Go.Proofs.YtioofhilohmfbaaGreatDoor.P
attribute [local go_sem] store_func
set_option maxRecDepth 100000 in
set_option maxHeartbeats 8000000 in
theorem takeCg_T (s W R1 R2 P R3 : ByteArray) (w : World) (hin : TakeIn s W R1 R2 P R3 true) (h0 : W.toList ≠ []) (h1 : 1 < W.size) (hw : ∀ h : 0 < W.size, ¬ ((W[0]'h).toNat : Int) = 48) (hp : P.toList ≠ []) (hl : W.size + P.size ≤ 40) (T Z T2 : ByteArray) (q1 : Bool) (q2 q3 l2 l3 : List Int) (kr kd kn : Nat) (g1 : strings_TrimLeft.f (W ++ P) ⟨#[48]⟩ = some T) (hT2 : (T.toList = [] ∧ T2 = ⟨#[48]⟩) ∨ (T.toList ≠ [] ∧ T2 = T)) (g2 : nat_Read.f kr T2 = some (l2, 0)) (g3 : strings_Repeat.f ⟨#[48]⟩ (P.size : Int) = some Z) (hZ : Z.size ≤ 1000000) (g4 : nat_Read.f kd (⟨#[49]⟩ ++ Z) = some (l3, 0)) (g5 : rat_New.f kn false l2 l3 = some (q1, q2, q3, 0)) :
    Calls Tryz.prog 67 #[.string s] w (TakeYes w R3 q1 q2 q3) := by
  obtain ⟨hs, hWs, hPs, hRs, t1, hR1, hcp, t3, hN, hR3⟩ := hin
  have p1 : ((W.size : Int) ≤ (s.size : Int)) = True := eq_true (by omega)
  have p2 : ((P.size : Int) ≤ (R2.size : Int)) = True := eq_true (by omega)
  have hWb : W.size ≤ 1099511627776 := by omega
  have hPb : P.size ≤ 1099511627776 := by omega
  have T1 := Aside0.mk t1
  have CP := Aside0.mk hcp
  have T3 := Aside0.mk (t3 rfl)
  have hR3 := hR3 rfl
  clear t3 hN t1 hcp hWs hPs hRs hs
  have G1 := Aside0.mk g1
  have G2 := Aside0.mk g2
  have G3 := Aside0.mk g3
  have G4 := Aside0.mk g4
  have G5 := Aside0.mk g5
  clear g1 g2 g3 g4 g5
  have h0b : W.toList.isEmpty = false := by cases h : W.toList with | nil => exact absurd h h0 | cons a l => rfl
  have c1 : (1 : Int) < (W.size : Int) := by omega
  have c2 : 0 < W.size := by omega
  have hwb : ∀ h : 0 < W.size, (((W[0]'h).toNat : Int) == 48) = false := fun h => beq_eq_false_iff_ne.2 (hw h)
  have hpb : P.toList.isEmpty = false := by cases h : P.toList with | nil => exact absurd h hp | cons a l => rfl
  have hl2 : (W.size : Int) + (P.size : Int) ≤ 40 := by omega
  clear hl
  rcases hT2 with ⟨hT, rfl⟩ | ⟨hT, e⟩
  · skip
    go_enter Tryz.func67, Tryz.ntmps67
    go_wp2_with (first
      | (go_at_call 92; (with_reducible refine (T1.out _ _ ?hc).mono ?_); (case hc => exact fn_cell _ _ _ _); rintro e w1 ⟨rfl, hb⟩; have RB1 := Aside0.mk (RB.below (RB.new w _ _) hb); have FC := Aside0.mk (pw_cell_below hb (fn_cell w _ _ _)); have HB := Aside0.mk (below_step (below2 w _ _) hb); clear hb)
      | (go_at_call 65; (with_reducible refine (strings_CutPrefix.calls R1 _ _ _ _ CP.out).mono ?_); rintro e w2 ⟨rfl, hb⟩; have RB2 := Aside0.mk (RB1.out.below hb); have FC2 := Aside0.mk (pw_cell_below hb FC.out); have HB2 := Aside0.mk (below_step HB.out hb); clear hb RB1 HB FC)
      | (go_at_call 92; (with_reducible refine (T3.out _ _ FC2.out).mono ?_); rintro e w4 ⟨rfl, hb⟩; have n0_ := Aside0.mk (RB2.out.below hb); have n1_ := Aside0.mk (below_step HB2.out hb); clear hb RB2 HB2 FC2; have RB2 := n0_; have HB2 := n1_; clear n0_ n1_)
      | (go_at_call 94; (with_reducible refine (strings_TrimLeft.calls _ _ _ _ G1.out).mono ?_); rintro e w3 ⟨rfl, hb⟩; have RB3 := Aside0.mk (RB2.out.below hb); have HB3 := Aside0.mk (below_step HB2.out hb); clear hb RB2 HB2)
      | (go_at_call 95; (with_reducible refine (nat_Read.calls kr _ l2 0 _ G2.out).mono ?_); rintro e w5 ⟨v5, rfl, ho, hb⟩; have RB5 := Aside0.mk (RB3.out.below hb); have HO5 := Aside0.mk ho; have HB5 := Aside0.mk (below_step HB3.out hb); clear ho hb RB3 HB3; obtain ⟨A5, c5, e5⟩ := Kd.V_slice HO5.out; subst e5)
      | (go_at_call 17; (with_reducible refine (strings_Repeat.calls _ _ Z _ G3.out).mono ?_); rintro e w6 ⟨rfl, hb⟩; have RB6 := Aside0.mk (RB5.out.below hb); have HO6 := Aside0.mk (Kd.V_below HO5.out hb); have HB6 := Aside0.mk (below_step HB5.out hb); clear hb RB5 HB5 HO5)
      | (go_at_call 95; (with_reducible refine (nat_Read.calls kd (⟨#[49]⟩ ++ Z) l3 0 _ G4.out).mono ?_); rintro e w7 ⟨v7, rfl, ho, hb⟩; have RB7 := Aside0.mk (RB6.out.below hb); have HO7 := Aside0.mk (Kd.V_below HO6.out hb); have HO8 := Aside0.mk ho; have HB7 := Aside0.mk (below_step HB6.out hb); clear ho hb RB6 HB6 HO6; obtain ⟨A7, c7, e7⟩ := Kd.V_slice HO8.out; subst e7)
      | (go_at_call 96; (with_reducible refine (rat_New.calls kn false _ _ l2 _ _ l3 q1 q2 q3 0 _ (Kd.V_reads' HO7.out).2.2 (Kd.V_reads' HO7.out).2.1 (Kd.V_reads' HO8.out).2.2 (Kd.V_reads' HO8.out).2.1 G5.out).mono ?_); rintro e w9 ⟨v1, v2, rfl, h1, h2, hb⟩; have RB9 := Aside0.mk (RB7.out.below hb); have Q1 := Aside0.mk h1; have Q2 := Aside0.mk h2; have HS := Aside0.mk (below_size HB7.out); have LT := Aside0.mk (blk_lt RB7.out); have HB9 := Aside0.mk (below_step HB7.out hb); clear h1 h2 hb RB7 HB7 HO7 HO8; obtain ⟨hc0, hc1, hc2, hf0, hf1, hf2⟩ := RB9.out.cells; obtain ⟨B1, d1, f1⟩ := Kd.R_slice Q1.out; subst f1; obtain ⟨B2, d2, f2⟩ := Kd.R_slice Q2.out; subst f2))
    refine bodyPost_ret (results_ctt rfl _ _ w.heap.size 41 #[.bool q1, .slice B1 q2.length d1, .slice B2 q3.length d2] (0, 0) _ rfl (RB.put2 (RB.put RB9.out _ _ _)) Tryz.underlying41 rfl (by kernel_rfl)) rfl ?_
    exact ⟨_, _, rfl, Kd.R_lower (R_put3 (R_put3 Q1.out LT.out _ _ _) LT.out _ _ _) HS.out, Kd.R_lower (R_put3 (R_put3 Q2.out LT.out _ _ _) LT.out _ _ _) HS.out, below_put (below_put HB9.out _ _ _) _ _ _⟩
  · have hTb : T2.toList.isEmpty = false := by rw [e]; cases h : T.toList with | nil => exact absurd h hT | cons a l => rfl
    clear hT
    subst e
    go_enter Tryz.func67, Tryz.ntmps67
    go_wp2_with (first
      | (go_at_call 92; (with_reducible refine (T1.out _ _ ?hc).mono ?_); (case hc => exact fn_cell _ _ _ _); rintro e w1 ⟨rfl, hb⟩; have RB1 := Aside0.mk (RB.below (RB.new w _ _) hb); have FC := Aside0.mk (pw_cell_below hb (fn_cell w _ _ _)); have HB := Aside0.mk (below_step (below2 w _ _) hb); clear hb)
      | (go_at_call 65; (with_reducible refine (strings_CutPrefix.calls R1 _ _ _ _ CP.out).mono ?_); rintro e w2 ⟨rfl, hb⟩; have RB2 := Aside0.mk (RB1.out.below hb); have FC2 := Aside0.mk (pw_cell_below hb FC.out); have HB2 := Aside0.mk (below_step HB.out hb); clear hb RB1 HB FC)
      | (go_at_call 92; (with_reducible refine (T3.out _ _ FC2.out).mono ?_); rintro e w4 ⟨rfl, hb⟩; have n0_ := Aside0.mk (RB2.out.below hb); have n1_ := Aside0.mk (below_step HB2.out hb); clear hb RB2 HB2 FC2; have RB2 := n0_; have HB2 := n1_; clear n0_ n1_)
      | (go_at_call 94; (with_reducible refine (strings_TrimLeft.calls _ _ _ _ G1.out).mono ?_); rintro e w3 ⟨rfl, hb⟩; have RB3 := Aside0.mk (RB2.out.below hb); have HB3 := Aside0.mk (below_step HB2.out hb); clear hb RB2 HB2)
      | (go_at_call 95; (with_reducible refine (nat_Read.calls kr _ l2 0 _ G2.out).mono ?_); rintro e w5 ⟨v5, rfl, ho, hb⟩; have RB5 := Aside0.mk (RB3.out.below hb); have HO5 := Aside0.mk ho; have HB5 := Aside0.mk (below_step HB3.out hb); clear ho hb RB3 HB3; obtain ⟨A5, c5, e5⟩ := Kd.V_slice HO5.out; subst e5)
      | (go_at_call 17; (with_reducible refine (strings_Repeat.calls _ _ Z _ G3.out).mono ?_); rintro e w6 ⟨rfl, hb⟩; have RB6 := Aside0.mk (RB5.out.below hb); have HO6 := Aside0.mk (Kd.V_below HO5.out hb); have HB6 := Aside0.mk (below_step HB5.out hb); clear hb RB5 HB5 HO5)
      | (go_at_call 95; (with_reducible refine (nat_Read.calls kd (⟨#[49]⟩ ++ Z) l3 0 _ G4.out).mono ?_); rintro e w7 ⟨v7, rfl, ho, hb⟩; have RB7 := Aside0.mk (RB6.out.below hb); have HO7 := Aside0.mk (Kd.V_below HO6.out hb); have HO8 := Aside0.mk ho; have HB7 := Aside0.mk (below_step HB6.out hb); clear ho hb RB6 HB6 HO6; obtain ⟨A7, c7, e7⟩ := Kd.V_slice HO8.out; subst e7)
      | (go_at_call 96; (with_reducible refine (rat_New.calls kn false _ _ l2 _ _ l3 q1 q2 q3 0 _ (Kd.V_reads' HO7.out).2.2 (Kd.V_reads' HO7.out).2.1 (Kd.V_reads' HO8.out).2.2 (Kd.V_reads' HO8.out).2.1 G5.out).mono ?_); rintro e w9 ⟨v1, v2, rfl, h1, h2, hb⟩; have RB9 := Aside0.mk (RB7.out.below hb); have Q1 := Aside0.mk h1; have Q2 := Aside0.mk h2; have HS := Aside0.mk (below_size HB7.out); have LT := Aside0.mk (blk_lt RB7.out); have HB9 := Aside0.mk (below_step HB7.out hb); clear h1 h2 hb RB7 HB7 HO7 HO8; obtain ⟨hc0, hc1, hc2, hf0, hf1, hf2⟩ := RB9.out.cells; obtain ⟨B1, d1, f1⟩ := Kd.R_slice Q1.out; subst f1; obtain ⟨B2, d2, f2⟩ := Kd.R_slice Q2.out; subst f2))
    refine bodyPost_ret (results_ctt rfl _ _ w.heap.size 41 #[.bool q1, .slice B1 q2.length d1, .slice B2 q3.length d2] (0, 0) _ rfl (RB.put2 (RB.put RB9.out _ _ _)) Tryz.underlying41 rfl (by kernel_rfl)) rfl ?_
    exact ⟨_, _, rfl, Kd.R_lower (R_put3 (R_put3 Q1.out LT.out _ _ _) LT.out _ _ _) HS.out, Kd.R_lower (R_put3 (R_put3 Q2.out LT.out _ _ _) LT.out _ _ _) HS.out, below_put (below_put HB9.out _ _ _) _ _ _⟩
end Go.Proofs.YtioofhilohmfbaaGreatDoor
end
section
set_option linter.unusedVariables false
set_option linter.unusedSimpArgs false
namespace Go.Proofs.YtioofhilohmfbaaGreatDoor
open Go Go.RowKit Go.Lib Go.Proofs.YtioofhilohmfbaaGreatDoorW.PrintWords Go.Proofs.YtioofhilohmfbaaGreatDoorW.PrintLast Go.Proofs.YtioofhilohmfbaaGreatDoorW.PrintMore Go.Proofs.YtioofhilohmfbaaGreatDoor.P
attribute [local go_sem] store_func
set_option maxRecDepth 100000 in
set_option maxHeartbeats 8000000 in
theorem takeDp_T (s W R1 R2 P R3 : ByteArray) (w : World) (hin : TakeIn s W R1 R2 P R3 true) (h0 : W.toList ≠ []) (h1 : W.size = 1) (hp : P.toList = []) :
    Calls Tryz.prog 67 #[.string s] w (TakeNo w) := by
  obtain ⟨hs, hWs, hPs, hRs, t1, hR1, hcp, t3, hN, hR3⟩ := hin
  have p1 : ((W.size : Int) ≤ (s.size : Int)) = True := eq_true (by omega)
  have p2 : ((P.size : Int) ≤ (R2.size : Int)) = True := eq_true (by omega)
  have hWb : W.size ≤ 1099511627776 := by omega
  have hPb : P.size ≤ 1099511627776 := by omega
  have T1 := Aside0.mk t1
  have CP := Aside0.mk hcp
  have T3 := Aside0.mk (t3 rfl)
  have hR3 := hR3 rfl
  clear t3 hN t1 hcp hWs hPs hRs hs
  have h0b : W.toList.isEmpty = false := by cases h : W.toList with | nil => exact absurd h h0 | cons a l => rfl
  have c1 : ¬ (1 : Int) < (W.size : Int) := by omega
  have c3 : ((W.size : Nat) : Int) ≤ 1 := by omega
  clear h1
  · skip
    go_enter Tryz.func67, Tryz.ntmps67
    go_wp2_with (first
      | (go_at_call 92; (with_reducible refine (T1.out _ _ ?hc).mono ?_); (case hc => exact fn_cell _ _ _ _); rintro e w1 ⟨rfl, hb⟩; have RB1 := Aside0.mk (RB.below (RB.new w _ _) hb); have FC := Aside0.mk (pw_cell_below hb (fn_cell w _ _ _)); have HB := Aside0.mk (below_step (below2 w _ _) hb); clear hb)
      | (go_at_call 65; (with_reducible refine (strings_CutPrefix.calls R1 _ _ _ _ CP.out).mono ?_); rintro e w2 ⟨rfl, hb⟩; have RB2 := Aside0.mk (RB1.out.below hb); have FC2 := Aside0.mk (pw_cell_below hb FC.out); have HB2 := Aside0.mk (below_step HB.out hb); clear hb RB1 HB FC)
      | (go_at_call 92; (with_reducible refine (T3.out _ _ FC2.out).mono ?_); rintro e w4 ⟨rfl, hb⟩; have n0_ := Aside0.mk (RB2.out.below hb); have n1_ := Aside0.mk (below_step HB2.out hb); clear hb RB2 HB2 FC2; have RB2 := n0_; have HB2 := n1_; clear n0_ n1_; obtain ⟨hc0, hc1, hc2, hf0, hf1, hf2⟩ := RB2.out.cells))
    refine bodyPost_ret (results_ctt rfl _ _ w.heap.size 41 #[.bool false, .slice none 0 0, .slice none 0 0] (0, 0) _ rfl (RB.put RB2.out false (.slice none 0 0) (.slice none 0 0)) Tryz.underlying41 rfl (by kernel_rfl)) rfl ?_
    exact ⟨rfl, below_put HB2.out _ _ _⟩
end Go.Proofs.YtioofhilohmfbaaGreatDoor
end
section
set_option linter.unusedVariables false
set_option linter.unusedSimpArgs false
namespace Go.Proofs.YtioofhilohmfbaaGreatDoor
open Go Go.RowKit Go.Lib Go.Proofs.YtioofhilohmfbaaGreatDoorW.PrintWords Go.Proofs.YtioofhilohmfbaaGreatDoorW.PrintLast Go.Proofs.YtioofhilohmfbaaGreatDoorW.PrintMore Go.Proofs.YtioofhilohmfbaaGreatDoor.P
attribute [local go_sem] store_func
set_option maxRecDepth 100000 in
set_option maxHeartbeats 8000000 in
theorem takeDl_T (s W R1 R2 P R3 : ByteArray) (w : World) (hin : TakeIn s W R1 R2 P R3 true) (h0 : W.toList ≠ []) (h1 : W.size = 1) (hp : P.toList ≠ []) (hl : 40 < W.size + P.size) :
    Calls Tryz.prog 67 #[.string s] w (TakeNo w) := by
  obtain ⟨hs, hWs, hPs, hRs, t1, hR1, hcp, t3, hN, hR3⟩ := hin
  have p1 : ((W.size : Int) ≤ (s.size : Int)) = True := eq_true (by omega)
  have p2 : ((P.size : Int) ≤ (R2.size : Int)) = True := eq_true (by omega)
  have hWb : W.size ≤ 1099511627776 := by omega
  have hPb : P.size ≤ 1099511627776 := by omega
  have T1 := Aside0.mk t1
  have CP := Aside0.mk hcp
  have T3 := Aside0.mk (t3 rfl)
  have hR3 := hR3 rfl
  clear t3 hN t1 hcp hWs hPs hRs hs
  have h0b : W.toList.isEmpty = false := by cases h : W.toList with | nil => exact absurd h h0 | cons a l => rfl
  have c1 : ¬ (1 : Int) < (W.size : Int) := by omega
  have c3 : ((W.size : Nat) : Int) ≤ 1 := by omega
  clear h1
  have hpb : P.toList.isEmpty = false := by cases h : P.toList with | nil => exact absurd h hp | cons a l => rfl
  have hl2 : (40 : Int) < (W.size : Int) + (P.size : Int) := by omega
  clear hl
  · skip
    go_enter Tryz.func67, Tryz.ntmps67
    go_wp2_with (first
      | (go_at_call 92; (with_reducible refine (T1.out _ _ ?hc).mono ?_); (case hc => exact fn_cell _ _ _ _); rintro e w1 ⟨rfl, hb⟩; have RB1 := Aside0.mk (RB.below (RB.new w _ _) hb); have FC := Aside0.mk (pw_cell_below hb (fn_cell w _ _ _)); have HB := Aside0.mk (below_step (below2 w _ _) hb); clear hb)
      | (go_at_call 65; (with_reducible refine (strings_CutPrefix.calls R1 _ _ _ _ CP.out).mono ?_); rintro e w2 ⟨rfl, hb⟩; have RB2 := Aside0.mk (RB1.out.below hb); have FC2 := Aside0.mk (pw_cell_below hb FC.out); have HB2 := Aside0.mk (below_step HB.out hb); clear hb RB1 HB FC)
      | (go_at_call 92; (with_reducible refine (T3.out _ _ FC2.out).mono ?_); rintro e w4 ⟨rfl, hb⟩; have n0_ := Aside0.mk (RB2.out.below hb); have n1_ := Aside0.mk (below_step HB2.out hb); clear hb RB2 HB2 FC2; have RB2 := n0_; have HB2 := n1_; clear n0_ n1_; obtain ⟨hc0, hc1, hc2, hf0, hf1, hf2⟩ := RB2.out.cells))
    refine bodyPost_ret (results_ctt rfl _ _ w.heap.size 41 #[.bool false, .slice none 0 0, .slice none 0 0] (0, 0) _ rfl (RB.put RB2.out false (.slice none 0 0) (.slice none 0 0)) Tryz.underlying41 rfl (by kernel_rfl)) rfl ?_
    exact ⟨rfl, below_put HB2.out _ _ _⟩
end Go.Proofs.YtioofhilohmfbaaGreatDoor
end
section
set_option linter.unusedVariables false
set_option linter.unusedSimpArgs false
namespace Go.Proofs.YtioofhilohmfbaaGreatDoor
open Go Go.RowKit Go.Lib Go.Proofs.YtioofhilohmfbaaGreatDoorW.PrintWords Go.Proofs.YtioofhilohmfbaaGreatDoorW.PrintLast Go.Proofs.YtioofhilohmfbaaGreatDoorW.PrintMore Go.Proofs.YtioofhilohmfbaaGreatDoor.P
attribute [local go_sem] store_func
set_option maxRecDepth 100000 in
set_option maxHeartbeats 8000000 in
theorem takeDg_T (s W R1 R2 P R3 : ByteArray) (w : World) (hin : TakeIn s W R1 R2 P R3 true) (h0 : W.toList ≠ []) (h1 : W.size = 1) (hp : P.toList ≠ []) (hl : W.size + P.size ≤ 40) (T Z T2 : ByteArray) (q1 : Bool) (q2 q3 l2 l3 : List Int) (kr kd kn : Nat) (g1 : strings_TrimLeft.f (W ++ P) ⟨#[48]⟩ = some T) (hT2 : (T.toList = [] ∧ T2 = ⟨#[48]⟩) ∨ (T.toList ≠ [] ∧ T2 = T)) (g2 : nat_Read.f kr T2 = some (l2, 0)) (g3 : strings_Repeat.f ⟨#[48]⟩ (P.size : Int) = some Z) (hZ : Z.size ≤ 1000000) (g4 : nat_Read.f kd (⟨#[49]⟩ ++ Z) = some (l3, 0)) (g5 : rat_New.f kn false l2 l3 = some (q1, q2, q3, 0)) :
    Calls Tryz.prog 67 #[.string s] w (TakeYes w R3 q1 q2 q3) := by
  obtain ⟨hs, hWs, hPs, hRs, t1, hR1, hcp, t3, hN, hR3⟩ := hin
  have p1 : ((W.size : Int) ≤ (s.size : Int)) = True := eq_true (by omega)
  have p2 : ((P.size : Int) ≤ (R2.size : Int)) = True := eq_true (by omega)
  have hWb : W.size ≤ 1099511627776 := by omega
  have hPb : P.size ≤ 1099511627776 := by omega
  have T1 := Aside0.mk t1
  have CP := Aside0.mk hcp
  have T3 := Aside0.mk (t3 rfl)
  have hR3 := hR3 rfl
  clear t3 hN t1 hcp hWs hPs hRs hs
  have G1 := Aside0.mk g1
  have G2 := Aside0.mk g2
  have G3 := Aside0.mk g3
  have G4 := Aside0.mk g4
  have G5 := Aside0.mk g5
  clear g1 g2 g3 g4 g5
  have h0b : W.toList.isEmpty = false := by cases h : W.toList with | nil => exact absurd h h0 | cons a l => rfl
  have c1 : ¬ (1 : Int) < (W.size : Int) := by omega
  have c3 : ((W.size : Nat) : Int) ≤ 1 := by omega
  clear h1
  have hpb : P.toList.isEmpty = false := by cases h : P.toList with | nil => exact absurd h hp | cons a l => rfl
  have hl2 : (W.size : Int) + (P.size : Int) ≤ 40 := by omega
  clear hl
  rcases hT2 with ⟨hT, rfl⟩ | ⟨hT, e⟩
  · skip
    go_enter Tryz.func67, Tryz.ntmps67
    go_wp2_with (first
      | (go_at_call 92; (with_reducible refine (T1.out _ _ ?hc).mono ?_); (case hc => exact fn_cell _ _ _ _); rintro e w1 ⟨rfl, hb⟩; have RB1 := Aside0.mk (RB.below (RB.new w _ _) hb); have FC := Aside0.mk (pw_cell_below hb (fn_cell w _ _ _)); have HB := Aside0.mk (below_step (below2 w _ _) hb); clear hb)
      | (go_at_call 65; (with_reducible refine (strings_CutPrefix.calls R1 _ _ _ _ CP.out).mono ?_); rintro e w2 ⟨rfl, hb⟩; have RB2 := Aside0.mk (RB1.out.below hb); have FC2 := Aside0.mk (pw_cell_below hb FC.out); have HB2 := Aside0.mk (below_step HB.out hb); clear hb RB1 HB FC)
      | (go_at_call 92; (with_reducible refine (T3.out _ _ FC2.out).mono ?_); rintro e w4 ⟨rfl, hb⟩; have n0_ := Aside0.mk (RB2.out.below hb); have n1_ := Aside0.mk (below_step HB2.out hb); clear hb RB2 HB2 FC2; have RB2 := n0_; have HB2 := n1_; clear n0_ n1_)
      | (go_at_call 94; (with_reducible refine (strings_TrimLeft.calls _ _ _ _ G1.out).mono ?_); rintro e w3 ⟨rfl, hb⟩; have RB3 := Aside0.mk (RB2.out.below hb); have HB3 := Aside0.mk (below_step HB2.out hb); clear hb RB2 HB2)
      | (go_at_call 95; (with_reducible refine (nat_Read.calls kr _ l2 0 _ G2.out).mono ?_); rintro e w5 ⟨v5, rfl, ho, hb⟩; have RB5 := Aside0.mk (RB3.out.below hb); have HO5 := Aside0.mk ho; have HB5 := Aside0.mk (below_step HB3.out hb); clear ho hb RB3 HB3; obtain ⟨A5, c5, e5⟩ := Kd.V_slice HO5.out; subst e5)
      | (go_at_call 17; (with_reducible refine (strings_Repeat.calls _ _ Z _ G3.out).mono ?_); rintro e w6 ⟨rfl, hb⟩; have RB6 := Aside0.mk (RB5.out.below hb); have HO6 := Aside0.mk (Kd.V_below HO5.out hb); have HB6 := Aside0.mk (below_step HB5.out hb); clear hb RB5 HB5 HO5)
      | (go_at_call 95; (with_reducible refine (nat_Read.calls kd (⟨#[49]⟩ ++ Z) l3 0 _ G4.out).mono ?_); rintro e w7 ⟨v7, rfl, ho, hb⟩; have RB7 := Aside0.mk (RB6.out.below hb); have HO7 := Aside0.mk (Kd.V_below HO6.out hb); have HO8 := Aside0.mk ho; have HB7 := Aside0.mk (below_step HB6.out hb); clear ho hb RB6 HB6 HO6; obtain ⟨A7, c7, e7⟩ := Kd.V_slice HO8.out; subst e7)
      | (go_at_call 96; (with_reducible refine (rat_New.calls kn false _ _ l2 _ _ l3 q1 q2 q3 0 _ (Kd.V_reads' HO7.out).2.2 (Kd.V_reads' HO7.out).2.1 (Kd.V_reads' HO8.out).2.2 (Kd.V_reads' HO8.out).2.1 G5.out).mono ?_); rintro e w9 ⟨v1, v2, rfl, h1, h2, hb⟩; have RB9 := Aside0.mk (RB7.out.below hb); have Q1 := Aside0.mk h1; have Q2 := Aside0.mk h2; have HS := Aside0.mk (below_size HB7.out); have LT := Aside0.mk (blk_lt RB7.out); have HB9 := Aside0.mk (below_step HB7.out hb); clear h1 h2 hb RB7 HB7 HO7 HO8; obtain ⟨hc0, hc1, hc2, hf0, hf1, hf2⟩ := RB9.out.cells; obtain ⟨B1, d1, f1⟩ := Kd.R_slice Q1.out; subst f1; obtain ⟨B2, d2, f2⟩ := Kd.R_slice Q2.out; subst f2))
    refine bodyPost_ret (results_ctt rfl _ _ w.heap.size 41 #[.bool q1, .slice B1 q2.length d1, .slice B2 q3.length d2] (0, 0) _ rfl (RB.put2 (RB.put RB9.out _ _ _)) Tryz.underlying41 rfl (by kernel_rfl)) rfl ?_
    exact ⟨_, _, rfl, Kd.R_lower (R_put3 (R_put3 Q1.out LT.out _ _ _) LT.out _ _ _) HS.out, Kd.R_lower (R_put3 (R_put3 Q2.out LT.out _ _ _) LT.out _ _ _) HS.out, below_put (below_put HB9.out _ _ _) _ _ _⟩
  · have hTb : T2.toList.isEmpty = false := by rw [e]; cases h : T.toList with | nil => exact absurd h hT | cons a l => rfl
    clear hT
    subst e
    go_enter Tryz.func67, Tryz.ntmps67
    go_wp2_with (first
      | (go_at_call 92; (with_reducible refine (T1.out _ _ ?hc).mono ?_); (case hc => exact fn_cell _ _ _ _); rintro e w1 ⟨rfl, hb⟩; have RB1 := Aside0.mk (RB.below (RB.new w _ _) hb); have FC := Aside0.mk (pw_cell_below hb (fn_cell w _ _ _)); have HB := Aside0.mk (below_step (below2 w _ _) hb); clear hb)
      | (go_at_call 65; (with_reducible refine (strings_CutPrefix.calls R1 _ _ _ _ CP.out).mono ?_); rintro e w2 ⟨rfl, hb⟩; have RB2 := Aside0.mk (RB1.out.below hb); have FC2 := Aside0.mk (pw_cell_below hb FC.out); have HB2 := Aside0.mk (below_step HB.out hb); clear hb RB1 HB FC)
      | (go_at_call 92; (with_reducible refine (T3.out _ _ FC2.out).mono ?_); rintro e w4 ⟨rfl, hb⟩; have n0_ := Aside0.mk (RB2.out.below hb); have n1_ := Aside0.mk (below_step HB2.out hb); clear hb RB2 HB2 FC2; have RB2 := n0_; have HB2 := n1_; clear n0_ n1_)
      | (go_at_call 94; (with_reducible refine (strings_TrimLeft.calls _ _ _ _ G1.out).mono ?_); rintro e w3 ⟨rfl, hb⟩; have RB3 := Aside0.mk (RB2.out.below hb); have HB3 := Aside0.mk (below_step HB2.out hb); clear hb RB2 HB2)
      | (go_at_call 95; (with_reducible refine (nat_Read.calls kr _ l2 0 _ G2.out).mono ?_); rintro e w5 ⟨v5, rfl, ho, hb⟩; have RB5 := Aside0.mk (RB3.out.below hb); have HO5 := Aside0.mk ho; have HB5 := Aside0.mk (below_step HB3.out hb); clear ho hb RB3 HB3; obtain ⟨A5, c5, e5⟩ := Kd.V_slice HO5.out; subst e5)
      | (go_at_call 17; (with_reducible refine (strings_Repeat.calls _ _ Z _ G3.out).mono ?_); rintro e w6 ⟨rfl, hb⟩; have RB6 := Aside0.mk (RB5.out.below hb); have HO6 := Aside0.mk (Kd.V_below HO5.out hb); have HB6 := Aside0.mk (below_step HB5.out hb); clear hb RB5 HB5 HO5)
      | (go_at_call 95; (with_reducible refine (nat_Read.calls kd (⟨#[49]⟩ ++ Z) l3 0 _ G4.out).mono ?_); rintro e w7 ⟨v7, rfl, ho, hb⟩; have RB7 := Aside0.mk (RB6.out.below hb); have HO7 := Aside0.mk (Kd.V_below HO6.out hb); have HO8 := Aside0.mk ho; have HB7 := Aside0.mk (below_step HB6.out hb); clear ho hb RB6 HB6 HO6; obtain ⟨A7, c7, e7⟩ := Kd.V_slice HO8.out; subst e7)
      | (go_at_call 96; (with_reducible refine (rat_New.calls kn false _ _ l2 _ _ l3 q1 q2 q3 0 _ (Kd.V_reads' HO7.out).2.2 (Kd.V_reads' HO7.out).2.1 (Kd.V_reads' HO8.out).2.2 (Kd.V_reads' HO8.out).2.1 G5.out).mono ?_); rintro e w9 ⟨v1, v2, rfl, h1, h2, hb⟩; have RB9 := Aside0.mk (RB7.out.below hb); have Q1 := Aside0.mk h1; have Q2 := Aside0.mk h2; have HS := Aside0.mk (below_size HB7.out); have LT := Aside0.mk (blk_lt RB7.out); have HB9 := Aside0.mk (below_step HB7.out hb); clear h1 h2 hb RB7 HB7 HO7 HO8; obtain ⟨hc0, hc1, hc2, hf0, hf1, hf2⟩ := RB9.out.cells; obtain ⟨B1, d1, f1⟩ := Kd.R_slice Q1.out; subst f1; obtain ⟨B2, d2, f2⟩ := Kd.R_slice Q2.out; subst f2))
    refine bodyPost_ret (results_ctt rfl _ _ w.heap.size 41 #[.bool q1, .slice B1 q2.length d1, .slice B2 q3.length d2] (0, 0) _ rfl (RB.put2 (RB.put RB9.out _ _ _)) Tryz.underlying41 rfl (by kernel_rfl)) rfl ?_
    exact ⟨_, _, rfl, Kd.R_lower (R_put3 (R_put3 Q1.out LT.out _ _ _) LT.out _ _ _) HS.out, Kd.R_lower (R_put3 (R_put3 Q2.out LT.out _ _ _) LT.out _ _ _) HS.out, below_put (below_put HB9.out _ _ _) _ _ _⟩
end Go.Proofs.YtioofhilohmfbaaGreatDoor
end
section
set_option linter.unusedVariables false
namespace Go.Proofs.YtioofhilohmfbaaGreatDoor
open Go Go.RowKit Go.Lib Go.Proofs.YtioofhilohmfbaaGreatDoorW.PrintWords Go.Proofs.YtioofhilohmfbaaGreatDoorW.PrintLast Go.Proofs.YtioofhilohmfbaaGreatDoorW.PrintMore Go.Proofs.YtioofhilohmfbaaGreatDoor.P
theorem runN_all (p : UInt8 → Bool) : ∀ l : List UInt8, ∀ c ∈ l.take (runN p l), p c = true
  | [], c, h => by simp at h
  | a :: t, c, h => by
    rw [runN] at h
    by_cases ha : p a = true
    · rw [if_pos ha, Nat.add_comm, List.take_succ_cons] at h
      rcases List.mem_cons.1 h with h1 | h1
      · rw [h1]; exact ha
      · exact runN_all p t c h1
    · rw [if_neg ha] at h
      simp at h
theorem ext_list (s : ByteArray) (i j : Nat) : (s.extract i j).data.toList = (s.data.toList.drop i).take (j - i) := by
  rw [ByteArray.data_extract, Array.toList_extract, List.extract_eq_take_drop]
theorem ext_take (s : ByteArray) (n : Nat) : (s.extract 0 n).data.toList = s.data.toList.take n := by
  rw [ext_list, List.drop_zero, Nat.sub_zero]
theorem ext_drop (s : ByteArray) (n : Nat) : (s.extract n s.size).data.toList = s.data.toList.drop n := by
  rw [ext_list, List.take_of_length_le (by rw [List.length_drop, Lib.size_eq]; omega)]
theorem bytes_ext {a b : ByteArray} (h : a.data.toList = b.data.toList) : a = b := by
  cases a with | mk a => cases b with | mk b => exact congrArg ByteArray.mk (Array.toList_inj.1 h)
theorem ascii_sub {l m : List UInt8} (h : asciiL l = true) (hs : ∀ c ∈ m, c ∈ l) : asciiL m = true :=
  List.all_eq_true.2 fun c hc => List.all_eq_true.1 h c (hs c hc)
/-! ### the digits -/
def takeW (s : ByteArray) : ByteArray := s.extract 0 (digRun s.data.toList)
def takeR1 (s : ByteArray) : ByteArray := s.extract (takeW s).size s.size
def takeHas (s : ByteArray) : Bool := Lib.hasPrefix (takeR1 s).data.toList [46]
def takeR2 (s : ByteArray) : ByteArray := ⟨(Lib.trimPrefix (takeR1 s).data.toList [46]).toArray⟩
def takeP (s : ByteArray) : ByteArray := if takeHas s = true then (takeR2 s).extract 0 (digRun (takeR2 s).data.toList) else ⟨#[]⟩
def takeR3 (s : ByteArray) : ByteArray := if takeHas s = true then (takeR2 s).extract (takeP s).size (takeR2 s).size else takeR2 s
def badT (W : ByteArray) (has : Bool) (P : ByteArray) : Bool := W.data.toList.isEmpty || (decide (1 < W.size) && (bt W 0 == 48)) || (has && P.data.toList.isEmpty) || decide (40 < W.size + P.size)
/-- The number that a text begins with, as1 a numerator and a denominator, and what is left. -/
def takeF (s : ByteArray) : Option (ByteArray × Nat × Nat) := if badT (takeW s) (takeHas s) (takeP s) = true then none else some (takeR3 s, decV ((takeW s).data.toList ++ (takeP s).data.toList), 10 ^ (takeP s).size)
theorem takeW_list (s : ByteArray) : (takeW s).data.toList = s.data.toList.take (digRun s.data.toList) := ext_take _ _
theorem takeW_size (s : ByteArray) : (takeW s).size = digRun s.data.toList := by
  rw [Lib.size_eq, takeW_list, List.length_take]
  exact Nat.min_eq_left (runN_le _ _)
theorem takeR1_list (s : ByteArray) : (takeR1 s).data.toList = s.data.toList.drop (digRun s.data.toList) := by
  unfold takeR1
  rw [ext_drop, takeW_size]
theorem trimPrefix_sub (l : List UInt8) : (Lib.trimPrefix l [46]).length ≤ l.length ∧ ∀ c ∈ Lib.trimPrefix l [46], c ∈ l := by
  unfold Lib.trimPrefix
  split
  · exact ⟨by rw [List.length_drop]; omega, fun c hc => List.mem_of_mem_drop hc⟩
  · exact ⟨Nat.le_refl _, fun c hc => hc⟩
theorem takeR2_list (s : ByteArray) : (takeR2 s).data.toList = Lib.trimPrefix (takeR1 s).data.toList [46] := by simp [takeR2]
theorem takeR2_sub (s : ByteArray) : (takeR2 s).size ≤ s.size ∧ ∀ c ∈ (takeR2 s).data.toList, c ∈ s.data.toList := by
  have h := trimPrefix_sub (takeR1 s).data.toList
  rw [Lib.size_eq, takeR2_list, Lib.size_eq]
  rw [takeR1_list] at h ⊢
  exact ⟨by have := h.1; rw [List.length_drop] at this; omega, fun c hc => List.mem_of_mem_drop (h.2 c hc)⟩
theorem takeP_list (s : ByteArray) (h : takeHas s = true) : (takeP s).data.toList = (takeR2 s).data.toList.take (digRun (takeR2 s).data.toList) := by
  unfold takeP
  rw [if_pos h, ext_take]
theorem takeP_size (s : ByteArray) : (takeP s).size ≤ (takeR2 s).size := by
  by_cases h : takeHas s = true
  · rw [Lib.size_eq, takeP_list s h, List.length_take, Lib.size_eq]
    omega
  · unfold takeP
    rw [if_neg h]
    exact Nat.zero_le _
theorem takeWP_digits (s : ByteArray) : ∀ c ∈ (takeW s).data.toList ++ (takeP s).data.toList, digB c = true := fun c hc => by
  rcases List.mem_append.1 hc with h | h
  · rw [takeW_list] at h
    exact runN_all _ _ c h
  · by_cases hh : takeHas s = true
    · rw [takeP_list s hh] at h
      exact runN_all _ _ c h
    · unfold takeP at h
      rw [if_neg hh] at h
      simp at h
theorem take_in (s : ByteArray) (hs : s.size ≤ 1099511627776) (ha : asciiL s.data.toList = true) : TakeIn s (takeW s) (takeR1 s) (takeR2 s) (takeP s) (takeR3 s) (takeHas s) where
  hs := hs
  hW := by rw [takeW_size, Lib.size_eq]; exact runN_le _ _
  hP := takeP_size s
  hR := (takeR2_sub s).1
  T1 := fun ad w hc => take2_calls s (by omega) ha ad w hc
  hR1 := rfl
  cp := rfl
  T3 := fun hh ad w hc => by
    have h := take2_calls (takeR2 s) (by have := (takeR2_sub s).1; omega) (ascii_sub ha (takeR2_sub s).2) ad w hc
    unfold takeP
    rw [if_pos hh]
    exact h
  hN := fun hh => by
    unfold takeP takeR3
    rw [if_neg (by rw [hh]; decide), if_neg (by rw [hh]; decide)]
    exact ⟨rfl, rfl⟩
  hR3 := fun hh => by
    unfold takeR3
    rw [if_pos hh]
/-! ### the numbers -/
theorem decV_zeros : ∀ (l m : List UInt8), (∀ c ∈ l, c = 48) → decV (l ++ m) = decV m
  | [], m, _ => rfl
  | a :: t, m, h => by
    have ih := decV_zeros t m (fun c hc => h c (by simp [hc]))
    have ha := h a (by simp)
    subst ha
    show decV (48 :: (t ++ m)) = _
    have : decV (48 :: (t ++ m)) = decV (t ++ m) := rfl
    rw [this, ih]
theorem decV_one : ∀ n : Nat, decV (49 :: List.replicate n 48) = 10 ^ n
  | 0 => rfl
  | n + 1 => by
    rw [List.replicate_succ', ← List.cons_append, decV_snoc, decV_one n, Nat.pow_succ]
    rfl
theorem trimL_split (l : List UInt8) : ∃ k, l = List.replicate k 48 ++ Lib.trimLeftS l [48] ∧ ((Lib.trimLeftS l [48]).head? ≠ some 48) := by
  unfold Lib.trimLeftS
  induction l with
  | nil => exact ⟨0, rfl, by simp⟩
  | cons a t ih =>
    by_cases h : a = 48
    · subst h
      obtain ⟨k, hk, hh⟩ := ih
      refine ⟨k + 1, ?_, ?_⟩
      · rw [List.dropWhile_cons, if_pos (by decide), List.replicate_succ, List.cons_append, ← hk]
      · rw [List.dropWhile_cons, if_pos (by decide)]
        exact hh
    · refine ⟨0, ?_, ?_⟩
      · rw [List.dropWhile_cons, if_neg (by simp [h])]
        rfl
      · rw [List.dropWhile_cons, if_neg (by simp [h])]
        simpa using h
theorem redV_small {v d : Nat} (hv : big 8 v) (hd : big 8 d) (h0 : 0 < d) : redV false v d = (false, L (v / Nat.gcd v d), L (d / Nat.gcd v d), 0) := by
  have m := fun {j : Nat} (h : big 8 j) => big_mono h (show 8 ≤ 64 by decide)
  have h1 := big_le hv (Nat.div_le_self v (Nat.gcd v d))
  have h2 := big_le hd (Nat.div_le_self d (Nat.gcd v d))
  have l1 := L_len_le (m h1) h1
  have l2 := L_len_le (m h2) h2
  unfold redV
  rw [if_neg (by omega), Bool.false_and]
theorem repeat_one : ∀ n : Nat, Lib.repeatL (⟨#[48]⟩ : ByteArray).data.toList n = List.replicate n 48
  | 0 => rfl
  | n + 1 => by rw [Lib.repeatL, repeat_one n]; rfl
/-- All that a number's text brings. -/
theorem take_good (s : ByteArray) (hb : badT (takeW s) (takeHas s) (takeP s) = false) :
    ∃ (T Z T2 : ByteArray) (l2 l3 : List Int) (kr kd kn : Nat), strings_TrimLeft.f (takeW s ++ takeP s) ⟨#[48]⟩ = some T ∧ ((T.toList = [] ∧ T2 = ⟨#[48]⟩) ∨ (T.toList ≠ [] ∧ T2 = T)) ∧ nat_Read.f kr T2 = some (l2, 0) ∧ strings_Repeat.f ⟨#[48]⟩ ((takeP s).size : Int) = some Z ∧ Z.size ≤ 1000000 ∧ nat_Read.f kd (⟨#[49]⟩ ++ Z) = some (l3, 0) ∧
      rat_New.f kn false l2 l3 = some ((redV false (decV ((takeW s).data.toList ++ (takeP s).data.toList)) (10 ^ (takeP s).size)).1, (redV false (decV ((takeW s).data.toList ++ (takeP s).data.toList)) (10 ^ (takeP s).size)).2.1, (redV false (decV ((takeW s).data.toList ++ (takeP s).data.toList)) (10 ^ (takeP s).size)).2.2.1, 0) := by
  have hd := takeWP_digits s
  have hsz : (takeW s).size + (takeP s).size ≤ 40 := by
    unfold badT at hb
    simp only [Bool.or_eq_false_iff, decide_eq_false_iff_not] at hb
    omega
  obtain ⟨D, hD⟩ : ∃ D, (takeW s).data.toList ++ (takeP s).data.toList = D := ⟨_, rfl⟩
  have hDl : D.length ≤ 40 := by rw [← hD, List.length_append, ← Lib.size_eq, ← Lib.size_eq]; exact hsz
  rw [hD] at hd ⊢
  have hWP : (takeW s ++ takeP s).data.toList = D := by rw [ByteArray.data_append, Array.toList_append, hD]
  obtain ⟨k, hk, hh⟩ := trimL_split D
  have hTl : strings_TrimLeft.f (takeW s ++ takeP s) ⟨#[48]⟩ = some ⟨(Lib.trimLeftS D [48]).toArray⟩ := by
    unfold strings_TrimLeft.f
    rw [if_pos (by decide), hWP]
  have hTlen : (Lib.trimLeftS D [48]).length ≤ 40 := by
    have := congrArg List.length hk
    rw [List.length_append] at this
    omega
  have hTd : ∀ c ∈ Lib.trimLeftS D [48], digB c = true := fun c hc => hd c (by rw [hk]; exact List.mem_append_right _ hc)
  have hv : decV D = decV (Lib.trimLeftS D [48]) := by
    conv => lhs; rw [hk]
    exact decV_zeros _ _ (fun c hc => List.eq_of_mem_replicate hc)
  -- the first text that is read
  obtain ⟨T2, hT2, hread⟩ : ∃ T2 : ByteArray, (((⟨(Lib.trimLeftS D [48]).toArray⟩ : ByteArray).toList = [] ∧ T2 = ⟨#[48]⟩) ∨ ((⟨(Lib.trimLeftS D [48]).toArray⟩ : ByteArray).toList ≠ [] ∧ T2 = ⟨(Lib.trimLeftS D [48]).toArray⟩)) ∧ Ev (fun k => nat_Read.f k T2) (L (decV D), 0) := by
    rw [hv]
    by_cases he : Lib.trimLeftS D [48] = []
    · refine ⟨⟨#[48]⟩, .inl ⟨by rw [Lib.toList_data, he], rfl⟩, ?_⟩
      rw [he]
      exact read_ev ⟨#[48]⟩ (by decide) (by decide) (by decide) (by decide)
    · refine ⟨_, .inr ⟨by rw [Lib.toList_data]; simpa using he, rfl⟩, ?_⟩
      have hs0 : 0 < (⟨(Lib.trimLeftS D [48]).toArray⟩ : ByteArray).size := by
        rw [Lib.size_eq]
        exact List.length_pos_iff.2 (by simpa using he)
      have h := read_ev ⟨(Lib.trimLeftS D [48]).toArray⟩ (by rw [Lib.size_eq]; simp; omega) hs0 (by simpa using hTd) (fun _ hc => hh (by
        cases hl : Lib.trimLeftS D [48] with
        | nil => exact absurd hl he
        | cons a t =>
          have hc' : a.toNat = 48 := by
            have e : (⟨(Lib.trimLeftS D [48]).toArray⟩ : ByteArray)[0]'hs0 = a := by
              show ((Lib.trimLeftS D [48]).toArray)[0]'_ = a
              simp [hl]
            rw [e] at hc
            exact hc
          rw [List.head?_cons]
          congr 1
          exact UInt8.toNat_inj.1 hc'))
      simpa using h
  -- the second one
  have hZ : strings_Repeat.f ⟨#[48]⟩ ((takeP s).size : Int) = some ⟨(List.replicate (takeP s).size 48).toArray⟩ := by
    have h1 : (⟨#[48]⟩ : ByteArray).size = 1 := rfl
    unfold strings_Repeat.f
    rw [if_pos ⟨by omega, by omega, by omega⟩, Int.toNat_natCast, repeat_one]
  have hZl : ((⟨#[49]⟩ : ByteArray) ++ ⟨(List.replicate (takeP s).size 48).toArray⟩).data.toList = 49 :: List.replicate (takeP s).size 48 := by
    rw [ByteArray.data_append, Array.toList_append]
    simp
  have hread2 : Ev (fun k => nat_Read.f k ((⟨#[49]⟩ : ByteArray) ++ ⟨(List.replicate (takeP s).size 48).toArray⟩)) (L (10 ^ (takeP s).size), 0) := by
    have hsz2 : ((⟨#[49]⟩ : ByteArray) ++ ⟨(List.replicate (takeP s).size 48).toArray⟩).size = (takeP s).size + 1 := by rw [Lib.size_eq, hZl, List.length_cons, List.length_replicate]
    have h := read_ev ((⟨#[49]⟩ : ByteArray) ++ ⟨(List.replicate (takeP s).size 48).toArray⟩) (by omega) (by omega) (by
      rw [hZl]
      intro c hc
      rcases List.mem_cons.1 hc with h | h
      · rw [h]; decide
      · rw [List.eq_of_mem_replicate h]; decide) (fun _ => by
      have e : ((⟨#[49]⟩ : ByteArray) ++ ⟨(List.replicate (takeP s).size 48).toArray⟩).data.toList[0]'(by rw [hZl]; simp) = 49 := by simp
      intro h
      have : (((⟨#[49]⟩ : ByteArray) ++ ⟨(List.replicate (takeP s).size 48).toArray⟩)[0]'(by omega)) = 49 := e
      rw [this] at h
      exact absurd h (by decide))
    rw [hZl, decV_one] at h
    exact h
  have b1 := decV_big (l := D) (by omega) hd
  have b2 : big 8 (10 ^ (takeP s).size) := by
    have := decV_big (l := 49 :: List.replicate (takeP s).size 48) (by rw [List.length_cons, List.length_replicate]; omega) (by
      intro c hc
      rcases List.mem_cons.1 hc with h | h
      · rw [h]; decide
      · rw [List.eq_of_mem_replicate h]; decide)
    rwa [decV_one] at this
  have h10 : 0 < 10 ^ (takeP s).size := Nat.pow_pos (by decide)
  have hnew := new_ev false (decV D) (10 ^ (takeP s).size) (big_mono b1 (by decide)) (big_mono b2 (by decide)) h10
  obtain ⟨kr, hkr⟩ := hread.rounds
  obtain ⟨kd, hkd⟩ := hread2.rounds
  obtain ⟨kn, hkn⟩ := hnew.rounds
  refine ⟨_, _, T2, _, _, kr, kd, kn, hTl, hT2, hkr, hZ, ?_, hkd, ?_⟩
  · rw [Lib.size_eq]
    simp
    omega
  · rw [hkn, redV_small b1 b2 h10]
theorem bt_zero (W : ByteArray) (h : 0 < W.size) : bt W 0 = ((W[0]'h).toNat : Int) := by
  unfold bt
  rw [dif_pos (by simpa using h)]
  rfl
theorem take_none (s : ByteArray) (hs : s.size ≤ 1099511627776) (ha : asciiL s.data.toList = true) (w : World) (h : takeF s = none) : Calls Tryz.prog 67 #[.string s] w (TakeNo w) := by
  have hin := take_in s hs ha
  have hb : badT (takeW s) (takeHas s) (takeP s) = true := by
    unfold takeF at h
    split at h
    · assumption
    · cases h
  generalize takeW s = W at *
  generalize takeR1 s = R1 at *
  generalize takeR2 s = R2 at *
  generalize takeP s = P at *
  generalize takeR3 s = R3 at *
  generalize takeHas s = has at *
  clear h
  unfold badT at hb
  by_cases h0 : W.toList = []
  · cases has
    · exact takeA_F s W R1 R2 P R3 w hin h0
    · exact takeA_T s W R1 R2 P R3 w hin h0
  have h0d : W.data.toList ≠ [] := by rwa [← Lib.toList_data]
  have hW0 : 0 < W.size := by rw [Lib.size_eq]; exact List.length_pos_iff.2 h0d
  have he : W.data.toList.isEmpty = false := by cases h : W.data.toList with | nil => exact absurd h h0d | cons a l => rfl
  rw [he, Bool.false_or] at hb
  have hPn : P.toList ≠ [] → P.data.toList.isEmpty = false := fun h => by
    rw [Lib.toList_data] at h
    cases hl : P.data.toList with | nil => exact absurd hl h | cons a l => rfl
  by_cases h1 : 1 < W.size
  · by_cases hw : ((W[0]'hW0).toNat : Int) = 48
    · cases has
      · exact takeB_F s W R1 R2 P R3 w hin h0 h1 (fun _ => hw)
      · exact takeB_T s W R1 R2 P R3 w hin h0 h1 (fun _ => hw)
    · rw [bt_zero W hW0, beq_eq_false_iff_ne.2 hw, Bool.and_false, Bool.false_or] at hb
      cases has
      · have hP0 := (hin.hN rfl).1
        rw [hP0, Bool.false_and, Bool.false_or] at hb
        exact takeCl_F s W R1 R2 P R3 w hin h0 h1 (fun _ => hw) (by have := of_decide_eq_true hb; have : (⟨#[]⟩ : ByteArray).size = 0 := rfl; omega)
      · by_cases hp : P.toList = []
        · exact takeCp_T s W R1 R2 P R3 w hin h0 h1 (fun _ => hw) hp
        · rw [hPn hp, Bool.and_false, Bool.false_or] at hb
          exact takeCl_T s W R1 R2 P R3 w hin h0 h1 (fun _ => hw) hp (of_decide_eq_true hb)
  · rw [decide_eq_false h1, Bool.false_and, Bool.false_or] at hb
    cases has
    · have hP0 := (hin.hN rfl).1
      rw [hP0, Bool.false_and, Bool.false_or] at hb
      have := of_decide_eq_true hb
      have : (⟨#[]⟩ : ByteArray).size = 0 := rfl
      omega
    · by_cases hp : P.toList = []
      · exact takeDp_T s W R1 R2 P R3 w hin h0 (by omega) hp
      · rw [hPn hp, Bool.and_false, Bool.false_or] at hb
        exact takeDl_T s W R1 R2 P R3 w hin h0 (by omega) hp (of_decide_eq_true hb)
theorem take_some (s : ByteArray) (hs : s.size ≤ 1099511627776) (ha : asciiL s.data.toList = true) (w : World) (rest : ByteArray) (v d : Nat) (h : takeF s = some (rest, v, d)) :
    Calls Tryz.prog 67 #[.string s] w (TakeYes w rest (redV false v d).1 (redV false v d).2.1 (redV false v d).2.2.1) := by
  have hin := take_in s hs ha
  unfold takeF at h
  by_cases hbt : badT (takeW s) (takeHas s) (takeP s) = true
  · rw [if_pos hbt] at h; cases h
  rw [if_neg hbt] at h
  injection h with h
  injection h with e1 h
  injection h with e2 e3
  have hb : badT (takeW s) (takeHas s) (takeP s) = false := by simpa using hbt
  obtain ⟨T, Z, T2, l2, l3, kr, kd, kn, g1, gT, g2, g3, gZ, g4, g5⟩ := take_good s hb
  rw [e2, e3] at g5
  rw [e1] at hin
  clear e1 e2 e3 hbt
  generalize takeW s = W at *
  generalize takeR1 s = R1 at *
  generalize takeR2 s = R2 at *
  generalize takeP s = P at *
  generalize takeHas s = has at *
  unfold badT at hb
  simp only [Bool.or_eq_false_iff, decide_eq_false_iff_not] at hb
  obtain ⟨⟨⟨hb1, hb2⟩, hb3⟩, hb4⟩ := hb
  have h0 : W.toList ≠ [] := fun e => by rw [Lib.toList_data] at e; rw [e] at hb1; cases hb1
  have h0d : W.data.toList ≠ [] := by rwa [← Lib.toList_data]
  have hW0 : 0 < W.size := by rw [Lib.size_eq]; exact List.length_pos_iff.2 h0d
  by_cases h1 : 1 < W.size
  · have hw : ¬ ((W[0]'hW0).toNat : Int) = 48 := fun e => by
      rw [decide_eq_true h1, bt_zero W hW0, e] at hb2
      cases hb2
    cases has
    · exact takeCg_F s W R1 R2 P rest w hin h0 h1 (fun _ => hw) (by omega) T Z T2 _ _ _ l2 l3 kr kd kn g1 gT g2 g3 gZ g4 g5
    · have hp : P.toList ≠ [] := fun e => by rw [Lib.toList_data] at e; rw [e] at hb3; cases hb3
      exact takeCg_T s W R1 R2 P rest w hin h0 h1 (fun _ => hw) hp (by omega) T Z T2 _ _ _ l2 l3 kr kd kn g1 gT g2 g3 gZ g4 g5
  · cases has
    · exact takeDg_F s W R1 R2 P rest w hin h0 (by omega) (by omega) T Z T2 _ _ _ l2 l3 kr kd kn g1 gT g2 g3 gZ g4 g5
    · have hp : P.toList ≠ [] := fun e => by rw [Lib.toList_data] at e; rw [e] at hb3; cases hb3
      exact takeDg_T s W R1 R2 P rest w hin h0 (by omega) hp (by omega) T Z T2 _ _ _ l2 l3 kr kd kn g1 gT g2 g3 gZ g4 g5
end Go.Proofs.YtioofhilohmfbaaGreatDoor
end
section
set_option linter.unusedVariables false
set_option linter.unusedSimpArgs false
namespace Go.Proofs.YtioofhilohmfbaaGreatDoor
open Go Go.RowKit Go.Lib Go.Proofs.YtioofhilohmfbaaGreatDoorW.PrintWords Go.Proofs.YtioofhilohmfbaaGreatDoorW.PrintLast Go.Proofs.YtioofhilohmfbaaGreatDoorW.PrintMore Go.Proofs.YtioofhilohmfbaaGreatDoor.P
/-- A number and an error are handed back. -/
def NumPost (w : World) (q : Bool × List Int × List Int × Int) (e : Ending) (w' : World) : Prop :=
  ∃ v1 v2 : Value, e = .returned (.tuple #[.agg #[.bool q.1, v1, v2], .int .i64 q.2.2.2]) ∧ Kd.R (Kd.int .u32) 109 w' w.heap.size (fun k_ => some k_ ≠ v2.ownBlock) v1 q.2.1 ∧ Kd.R (Kd.int .u32) 109 w' w.heap.size (fun k_ => some k_ ≠ v1.ownBlock) v2 q.2.2.1 ∧ Below w.heap.size w w'
theorem RB.new1 (w : World) : RB w (w.alloc (.cells #[.bool false, .slice none 0 0, .slice none 0 0] 41)) := blk_new w _
theorem RB.far3 {w W : World} (h : RB w W) {g : Nat} (hg : w.heap.size ≠ g) (u0 u1 u2 : Value) : RB w (((W.setCell ⟨g, 0, none⟩ u0).setCell ⟨g, 1, none⟩ u1).setCell ⟨g, 2, none⟩ u2) :=
  blk_far (p := ⟨g, 2, none⟩) (blk_far (p := ⟨g, 1, none⟩) (blk_far (p := ⟨g, 0, none⟩) h hg u0) hg u1) hg u2
theorem below_far3 {w W : World} (h : Below w.heap.size w W) {g : Nat} (hg : w.heap.size ≤ g) (u0 u1 u2 : Value) : Below w.heap.size w (((W.setCell ⟨g, 0, none⟩ u0).setCell ⟨g, 1, none⟩ u1).setCell ⟨g, 2, none⟩ u2) :=
  below_set (below_set (below_set h hg) hg) hg
theorem R_away {e base g0 g1 : Nat} {W : World} {ok : Nat → Prop} {v : Value} {xs : List Int} (h : Kd.R (Kd.int .u32) e W base ok v xs) (h0 : g0 < base) (h1 : W.heap.size ≤ g1) : Kd.R (Kd.int .u32) e W base (fun k => ok k ∧ k ≠ g0 ∧ k ≠ g1) v xs :=
  Kd.R_mono (Kd.R_bound h) (fun k hk => ⟨hk.1, by have := hk.2.1; omega, by have := hk.2.2.1; omega⟩)
theorem R_sets {e base g0 g1 : Nat} {W : World} {ok : Nat → Prop} {v : Value} {xs : List Int} (h : Kd.R (Kd.int .u32) e W base (fun k => ok k ∧ k ≠ g0 ∧ k ≠ g1) v xs) (u0 u1 u2 x0 x1 x2 : Value) :
    Kd.R (Kd.int .u32) e ((((((W.setCell ⟨g1, 0, none⟩ u0).setCell ⟨g1, 1, none⟩ u1).setCell ⟨g1, 2, none⟩ u2).setCell ⟨g0, 0, none⟩ x0).setCell ⟨g0, 1, none⟩ x1).setCell ⟨g0, 2, none⟩ x2) base ok v xs :=
  Kd.R_mono (Kd.R_far (p := ⟨g0, 2, none⟩) (Kd.R_far (p := ⟨g0, 1, none⟩) (Kd.R_far (p := ⟨g0, 0, none⟩) (Kd.R_far (p := ⟨g1, 2, none⟩) (Kd.R_far (p := ⟨g1, 1, none⟩) (Kd.R_far (p := ⟨g1, 0, none⟩) h (fun _ hk => hk.2.2) u0) (fun _ hk => hk.2.2) u1) (fun _ hk => hk.2.2) u2) (fun _ hk => hk.2.1) x0) (fun _ hk => hk.2.1) x1) (fun _ hk => hk.2.1) x2) (fun _ hk => hk.1)
theorem num_none {w w' : World} (c : Int) (hb : Below w.heap.size w w') : NumPost w (false, [], [], c) (.returned (.tuple #[.agg #[.bool false, .slice none 0 0, .slice none 0 0], .int .i64 c])) w' :=
  ⟨_, _, rfl, Kd.R_nil _ _ _ _ _, Kd.R_nil _ _ _ _ _, hb⟩
set_option maxRecDepth 100000 in
set_option maxHeartbeats 4000000 in
theorem number_none (s : ByteArray) (w : World) (T : ∀ W, Calls Tryz.prog 67 #[.string s] W (TakeNo W)) : Calls Tryz.prog 35 #[.string s] w (NumPost w (false, [], [], 4)) := by
  have HT := Aside0.mk T
  clear T
  go_enter Tryz.func35, Tryz.ntmps35
  go_wp2_with (first
    | (go_at_call 67; (with_reducible refine (HT.out _).mono ?_); rintro e w1 ⟨rfl, hb⟩; have RB1 := Aside0.mk (RB.below (RB.new1 w) hb); have HB := Aside0.mk (below_step (below_alloc (Below.refl w.heap.size w) _) hb); clear hb)
    | ((with_reducible refine gate_dst (N := 4) rfl ?_); refine box_event ?hg (N := 4) ?hd (cs := #[.bool false, .slice none 0 0, .slice none 0 0]) (t := 41) ?hr ?_; (case hd => rfl); (case hg => rfl); (case hr => first | (go_simp; done) | (go_simp; rfl)); intro gb hgb w2 hbox hb; have RB2 := Aside0.mk (RB1.out.below hb); have HB2 := Aside0.mk (below_step HB.out hb); have BX := Aside0.mk hbox; have hne : gb ≠ w.heap.size := (by have := blk_lt RB1.out; omega); have hne2 : w.heap.size ≠ gb := Ne.symm hne; have GE := Aside0.mk (show w.heap.size ≤ gb by have := blk_lt RB1.out; omega); clear hb hgb hbox RB1 HB; obtain ⟨hc0, hc1, hc2, hf0, hf1, hf2⟩ := RB2.out.cells; have hb0 := (blk_cell BX.out 0); have hb1 := (blk_cell BX.out 1); have hb2 := (blk_cell BX.out 2); have hbf0 := blk_frozen BX.out 0; have hbf1 := blk_frozen BX.out 1; have hbf2 := blk_frozen BX.out 2; simp only [List.getElem?_toArray, List.getElem?_cons_zero, List.getElem?_cons_succ] at hb0 hb1 hb2))
  refine bodyPost_ret (results_ct rfl _ _ w.heap.size 41 #[.bool false, .slice none 0 0, .slice none 0 0] (0, 0) _ rfl (RB.put (RB.far3 RB2.out hne2 _ _ _) false _ _) Tryz.underlying41 rfl (by kernel_rfl)) rfl ?_
  exact num_none _ (below_put (below_far3 HB2.out GE.out _ _ _) _ _ _)
set_option maxRecDepth 100000 in
set_option maxHeartbeats 4000000 in
theorem number_rest (s rest : ByteArray) (q1 : Bool) (q2 q3 : List Int) (w : World) (hr : rest.toList ≠ []) (T : ∀ W, Calls Tryz.prog 67 #[.string s] W (TakeYes W rest q1 q2 q3)) : Calls Tryz.prog 35 #[.string s] w (NumPost w (false, [], [], 4)) := by
  have hrb : rest.toList.isEmpty = false := by cases h : rest.toList with | nil => exact absurd h hr | cons a l => rfl
  have HT := Aside0.mk T
  clear T
  go_enter Tryz.func35, Tryz.ntmps35
  go_wp2_with (first
    | (go_at_call 67; (with_reducible refine (HT.out _).mono ?_); rintro e w1 ⟨v1, v2, rfl, h1, h2, hb⟩; have RB1 := Aside0.mk (RB.below (RB.new1 w) hb); have HB := Aside0.mk (below_step (below_alloc (Below.refl w.heap.size w) _) hb); obtain ⟨B1, d1, f1⟩ := Kd.R_slice h1; subst f1; obtain ⟨B2, d2, f2⟩ := Kd.R_slice h2; subst f2; clear h1 h2; clear hb)
    | ((with_reducible refine gate_dst (N := 4) rfl ?_); refine box_event ?hg (N := 4) ?hd (cs := #[.bool false, .slice none 0 0, .slice none 0 0]) (t := 41) ?hr ?_; (case hd => rfl); (case hg => rfl); (case hr => first | (go_simp; done) | (go_simp; rfl)); intro gb hgb w2 hbox hb; have RB2 := Aside0.mk (RB1.out.below hb); have HB2 := Aside0.mk (below_step HB.out hb); have BX := Aside0.mk hbox; have hne : gb ≠ w.heap.size := (by have := blk_lt RB1.out; omega); have hne2 : w.heap.size ≠ gb := Ne.symm hne; have GE := Aside0.mk (show w.heap.size ≤ gb by have := blk_lt RB1.out; omega); clear hb hgb hbox RB1 HB; obtain ⟨hc0, hc1, hc2, hf0, hf1, hf2⟩ := RB2.out.cells; have hb0 := (blk_cell BX.out 0); have hb1 := (blk_cell BX.out 1); have hb2 := (blk_cell BX.out 2); have hbf0 := blk_frozen BX.out 0; have hbf1 := blk_frozen BX.out 1; have hbf2 := blk_frozen BX.out 2; simp only [List.getElem?_toArray, List.getElem?_cons_zero, List.getElem?_cons_succ] at hb0 hb1 hb2))
  refine bodyPost_ret (results_ct rfl _ _ w.heap.size 41 #[.bool false, .slice none 0 0, .slice none 0 0] (0, 0) _ rfl (RB.put (RB.far3 RB2.out hne2 _ _ _) false _ _) Tryz.underlying41 rfl (by kernel_rfl)) rfl ?_
  exact num_none _ (below_put (below_far3 HB2.out GE.out _ _ _) _ _ _)
set_option maxRecDepth 100000 in
set_option maxHeartbeats 4000000 in
theorem number_yes (s rest : ByteArray) (q1 : Bool) (q2 q3 : List Int) (w : World) (hr : rest.toList = []) (T : ∀ W, Calls Tryz.prog 67 #[.string s] W (TakeYes W rest q1 q2 q3)) : Calls Tryz.prog 35 #[.string s] w (NumPost w (q1, q2, q3, 0)) := by
  have hrb : rest.toList.isEmpty = true := by rw [hr]; rfl
  have HT := Aside0.mk T
  clear T
  go_enter Tryz.func35, Tryz.ntmps35
  go_wp2_with (first
    | (go_at_call 67; (with_reducible refine (HT.out _).mono ?_); rintro e w1 ⟨v1, v2, rfl, h1, h2, hb⟩; have RB1 := Aside0.mk (RB.below (RB.new1 w) hb); have HB := Aside0.mk (below_step (below_alloc (Below.refl w.heap.size w) _) hb); have LO := Aside0.mk (show w.heap.size < (w.alloc (.cells #[.bool false, .slice none 0 0, .slice none 0 0] 41)).heap.size by simp); have LE := Aside0.mk (Nat.le_of_lt LO.out); have P1 := Aside0.mk h1; have P2 := Aside0.mk h2; obtain ⟨B1, d1, f1⟩ := Kd.R_slice P1.out; subst f1; obtain ⟨B2, d2, f2⟩ := Kd.R_slice P2.out; subst f2; clear h1 h2; clear hb)
    | ((with_reducible refine gate_dst (N := 4) rfl ?_); refine box_event ?hg (N := 4) ?hd (cs := #[.bool false, .slice none 0 0, .slice none 0 0]) (t := 41) ?hr ?_; (case hd => rfl); (case hg => rfl); (case hr => first | (go_simp; done) | (go_simp; rfl)); intro gb hgb w2 hbox hb; have RB2 := Aside0.mk (RB1.out.below hb); have HB2 := Aside0.mk (below_step HB.out hb); have BX := Aside0.mk hbox; have hne : gb ≠ w.heap.size := (by have := blk_lt RB1.out; omega); have hne2 : w.heap.size ≠ gb := Ne.symm hne; have GE := Aside0.mk (show w.heap.size ≤ gb by have := blk_lt RB1.out; omega); have Q1 := Aside0.mk (Kd.R_below (R_away P1.out LO.out (g1 := gb) (by omega)) hb); have Q2 := Aside0.mk (Kd.R_below (R_away P2.out LO.out (g1 := gb) (by omega)) hb); clear P1 P2; clear hb hgb hbox RB1 HB; obtain ⟨hc0, hc1, hc2, hf0, hf1, hf2⟩ := RB2.out.cells; have hb0 := (blk_cell BX.out 0); have hb1 := (blk_cell BX.out 1); have hb2 := (blk_cell BX.out 2); have hbf0 := blk_frozen BX.out 0; have hbf1 := blk_frozen BX.out 1; have hbf2 := blk_frozen BX.out 2; simp only [List.getElem?_toArray, List.getElem?_cons_zero, List.getElem?_cons_succ] at hb0 hb1 hb2))
  refine bodyPost_ret (results_ct rfl _ _ w.heap.size 41 #[.bool q1, .slice B1 q2.length d1, .slice B2 q3.length d2] (0, 0) _ rfl (RB.put (RB.far3 RB2.out hne2 _ _ _) q1 _ _) Tryz.underlying41 rfl (by kernel_rfl)) rfl ?_
  exact ⟨_, _, rfl, Kd.R_lower (R_sets Q1.out _ _ _ _ _ _) LE.out, Kd.R_lower (R_sets Q2.out _ _ _ _ _ _) LE.out, below_put (below_far3 HB2.out GE.out _ _ _) _ _ _⟩
set_option maxRecDepth 100000 in
set_option maxHeartbeats 4000000 in
theorem signed_calls (g : Nat) (eg : ∀ args w, (callFunc g args).run Tryz.prog w = .ok (.enter g args) w) (s : ByteArray) (q1 : Bool) (q2 q3 : List Int) (q4 : Int) (w : World) (hn : Lib.hasPrefix s.data.toList [45] = false) (hq : 0 ≤ q4) (T : ∀ W, Calls Tryz.prog g #[.string s] W (NumPost W (q1, q2, q3, q4))) : Calls Tryz.prog 34 #[.string s, .func (.func g) #[] #[]] w (NumPost w (q1, q2, q3, q4)) := by
  have hcp : strings_CutPrefix.f s ⟨#[45]⟩ = some (s, false) := by
    unfold strings_CutPrefix.f
    have h : Lib.hasPrefix s.data.toList (⟨#[45]⟩ : ByteArray).data.toList = false := hn
    rw [h]
    congr 2
    exact bytes_ext (by
      have : Lib.trimPrefix s.data.toList (⟨#[45]⟩ : ByteArray).data.toList = s.data.toList := by unfold Lib.trimPrefix; rw [h]; rfl
      simp [this])
  have CP := Aside0.mk hcp
  have HT := Aside0.mk T
  clear T hn hcp
  by_cases h0 : q4 = 0
  · have c1 : (q4 == 0) = true := beq_iff_eq.2 h0
    have H0 := Aside0.mk h0
    clear h0 hq
    go_enter Tryz.func34, Tryz.ntmps34
    go_wp2_with (first
      | (go_at_call 65; (with_reducible refine (strings_CutPrefix.calls s _ _ _ _ CP.out).mono ?_); rintro e w0 ⟨rfl, hb⟩; have RB0 := Aside0.mk (RB.below (RB.new1 w) hb); have HB0 := Aside0.mk (below_step (below_alloc (Below.refl w.heap.size w) _) hb); clear hb)
      | (go_at_fn g; (with_reducible refine (HT.out _).mono ?_); rintro e w1 ⟨v1, v2, rfl, h1, h2, hb⟩; have RB1 := Aside0.mk (RB0.out.below hb); have HB := Aside0.mk (below_step HB0.out hb); have LO := Aside0.mk (blk_lt RB0.out); have LE := Aside0.mk (below_size HB0.out); have P1 := Aside0.mk h1; have P2 := Aside0.mk h2; obtain ⟨B1, d1, f1⟩ := Kd.R_slice P1.out; subst f1; obtain ⟨B2, d2, f2⟩ := Kd.R_slice P2.out; subst f2; clear h1 h2 hb RB0 HB0)
      | ((with_reducible refine gate_dst (N := 7) rfl ?_); refine box_event ?hg (N := 7) ?hd (cs := #[.bool false, .slice none 0 0, .slice none 0 0]) (t := 41) ?hr ?_; (case hd => rfl); (case hg => rfl); (case hr => first | (go_simp; done) | (go_simp; rfl)); intro gb hgb w2 hbox hb; have RB2 := Aside0.mk (RB1.out.below hb); have HB2 := Aside0.mk (below_step HB.out hb); have BX := Aside0.mk hbox; have hne : gb ≠ w.heap.size := (by have := blk_lt RB1.out; omega); have hne2 : w.heap.size ≠ gb := Ne.symm hne; have GE := Aside0.mk (show w.heap.size ≤ gb by have := blk_lt RB1.out; omega); have Q1 := Aside0.mk (Kd.R_below (R_away P1.out LO.out (g1 := gb) (by omega)) hb); have Q2 := Aside0.mk (Kd.R_below (R_away P2.out LO.out (g1 := gb) (by omega)) hb); clear P1 P2; clear hb hgb hbox RB1 HB; obtain ⟨hc0, hc1, hc2, hf0, hf1, hf2⟩ := RB2.out.cells; have hb0 := (blk_cell BX.out 0); have hb1 := (blk_cell BX.out 1); have hb2 := (blk_cell BX.out 2); have hbf0 := blk_frozen BX.out 0; have hbf1 := blk_frozen BX.out 1; have hbf2 := blk_frozen BX.out 2; simp only [List.getElem?_toArray, List.getElem?_cons_zero, List.getElem?_cons_succ] at hb0 hb1 hb2))
    refine bodyPost_ret (results_ct rfl _ _ w.heap.size 41 #[.bool q1, .slice B1 q2.length d1, .slice B2 q3.length d2] (0, 0) _ rfl (RB.put (RB.far3 RB2.out hne2 _ _ _) q1 _ _) Tryz.underlying41 rfl (by kernel_rfl)) rfl ?_
    exact ⟨_, _, rfl, Kd.R_lower (R_sets Q1.out _ _ _ _ _ _) LE.out, Kd.R_lower (R_sets Q2.out _ _ _ _ _ _) LE.out, below_put (below_far3 HB2.out GE.out _ _ _) _ _ _⟩
  · have c1 : (q4 == 0) = false := beq_eq_false_iff_ne.2 h0
    clear hq
    go_enter Tryz.func34, Tryz.ntmps34
    go_wp2_with (first
      | (go_at_call 65; (with_reducible refine (strings_CutPrefix.calls s _ _ _ _ CP.out).mono ?_); rintro e w0 ⟨rfl, hb⟩; have RB0 := Aside0.mk (RB.below (RB.new1 w) hb); have HB0 := Aside0.mk (below_step (below_alloc (Below.refl w.heap.size w) _) hb); clear hb)
      | (go_at_fn g; (with_reducible refine (HT.out _).mono ?_); rintro e w1 ⟨v1, v2, rfl, h1, h2, hb⟩; have RB1 := Aside0.mk (RB0.out.below hb); have HB := Aside0.mk (below_step HB0.out hb); have LO := Aside0.mk (blk_lt RB0.out); have LE := Aside0.mk (below_size HB0.out); have P1 := Aside0.mk h1; have P2 := Aside0.mk h2; obtain ⟨B1, d1, f1⟩ := Kd.R_slice P1.out; subst f1; obtain ⟨B2, d2, f2⟩ := Kd.R_slice P2.out; subst f2; clear h1 h2 hb RB0 HB0)
      | ((with_reducible refine gate_dst (N := 7) rfl ?_); refine box_event ?hg (N := 7) ?hd (cs := #[.bool false, .slice none 0 0, .slice none 0 0]) (t := 41) ?hr ?_; (case hd => rfl); (case hg => rfl); (case hr => first | (go_simp; done) | (go_simp; rfl)); intro gb hgb w2 hbox hb; have RB2 := Aside0.mk (RB1.out.below hb); have HB2 := Aside0.mk (below_step HB.out hb); have BX := Aside0.mk hbox; have hne : gb ≠ w.heap.size := (by have := blk_lt RB1.out; omega); have hne2 : w.heap.size ≠ gb := Ne.symm hne; have GE := Aside0.mk (show w.heap.size ≤ gb by have := blk_lt RB1.out; omega); have Q1 := Aside0.mk (Kd.R_below (R_away P1.out LO.out (g1 := gb) (by omega)) hb); have Q2 := Aside0.mk (Kd.R_below (R_away P2.out LO.out (g1 := gb) (by omega)) hb); clear P1 P2; clear hb hgb hbox RB1 HB; obtain ⟨hc0, hc1, hc2, hf0, hf1, hf2⟩ := RB2.out.cells; have hb0 := (blk_cell BX.out 0); have hb1 := (blk_cell BX.out 1); have hb2 := (blk_cell BX.out 2); have hbf0 := blk_frozen BX.out 0; have hbf1 := blk_frozen BX.out 1; have hbf2 := blk_frozen BX.out 2; simp only [List.getElem?_toArray, List.getElem?_cons_zero, List.getElem?_cons_succ] at hb0 hb1 hb2))
    refine bodyPost_ret (results_ct rfl _ _ w.heap.size 41 #[.bool q1, .slice B1 q2.length d1, .slice B2 q3.length d2] (0, 0) _ rfl (RB.put (RB.far3 RB2.out hne2 _ _ _) q1 _ _) Tryz.underlying41 rfl (by kernel_rfl)) rfl ?_
    exact ⟨_, _, rfl, Kd.R_lower (R_sets Q1.out _ _ _ _ _ _) LE.out, Kd.R_lower (R_sets Q2.out _ _ _ _ _ _) LE.out, below_put (below_far3 HB2.out GE.out _ _ _) _ _ _⟩
/-- A text's number, or none. -/
def numV (s : ByteArray) : Bool × List Int × List Int × Int := match takeF s with
  | some (rest, v, d) => if rest.toList = [] then ((redV false v d).1, (redV false v d).2.1, (redV false v d).2.2.1, 0) else (false, [], [], 4)
  | none => (false, [], [], 4)
theorem number_calls (s : ByteArray) (hs : s.size ≤ 1099511627776) (ha : asciiL s.data.toList = true) (w : World) : Calls Tryz.prog 35 #[.string s] w (NumPost w (numV s)) := by
  unfold numV
  cases h : takeF s with
  | none => exact number_none s w (fun W => take_none s hs ha W h)
  | some x =>
    obtain ⟨rest, v, d⟩ := x
    simp only
    by_cases hr : rest.toList = []
    · rw [if_pos hr]
      exact number_yes s rest _ _ _ w hr (fun W => take_some s hs ha W rest v d h)
    · rw [if_neg hr]
      exact number_rest s rest _ _ _ w hr (fun W => take_some s hs ha W rest v d h)
theorem numV_err (s : ByteArray) : (numV s).2.2.2 = 0 ∨ (numV s).2.2.2 = 4 := by
  unfold numV
  cases takeF s with
  | none => exact .inr rfl
  | some x =>
    simp only
    split
    · exact .inl rfl
    · exact .inr rfl
set_option maxRecDepth 100000 in
set_option maxHeartbeats 4000000 in
theorem Number_walk (s : ByteArray) (q1 : Bool) (q2 q3 : List Int) (q4 : Int) (w : World) (T : ∀ W, Calls Tryz.prog 34 #[.string s, .func (.func 35) #[] #[]] W (NumPost W (q1, q2, q3, q4))) : Calls Tryz.prog 15 #[.string s] w (NumPost w (q1, q2, q3, q4)) := by
  have HT := Aside0.mk T
  clear T
  go_enter Tryz.func15, Tryz.ntmps15
  go_wp2_with (first
    | (go_at_call 34; (with_reducible refine (HT.out _).mono ?_); rintro e w1 ⟨v1, v2, rfl, h1, h2, hb⟩; have RB1 := Aside0.mk (RB.below (RB.new1 w) hb); have HB := Aside0.mk (below_step (below_alloc (Below.refl w.heap.size w) _) hb); have LO := Aside0.mk (show w.heap.size < (w.alloc (.cells #[.bool false, .slice none 0 0, .slice none 0 0] 41)).heap.size by simp); have LE := Aside0.mk (Nat.le_of_lt LO.out); have P1 := Aside0.mk h1; have P2 := Aside0.mk h2; obtain ⟨B1, d1, f1⟩ := Kd.R_slice P1.out; subst f1; obtain ⟨B2, d2, f2⟩ := Kd.R_slice P2.out; subst f2; clear h1 h2 hb; obtain ⟨hc0, hc1, hc2, hf0, hf1, hf2⟩ := RB1.out.cells))
  refine bodyPost_ret (results_ct rfl _ _ w.heap.size 41 #[.bool q1, .slice B1 q2.length d1, .slice B2 q3.length d2] (0, 0) _ rfl (RB.put RB1.out q1 _ _) Tryz.underlying41 rfl (by kernel_rfl)) rfl ?_
  exact ⟨_, _, rfl, Kd.R_lower (R_put3 P1.out LO.out _ _ _) LE.out, Kd.R_lower (R_put3 P2.out LO.out _ _ _) LE.out, below_put HB.out _ _ _⟩
theorem Number_calls (s : ByteArray) (hs : s.size ≤ 1099511627776) (ha : asciiL s.data.toList = true) (hn : Lib.hasPrefix s.data.toList [45] = false) (w : World) : Calls Tryz.prog 15 #[.string s] w (NumPost w (numV s)) :=
  Number_walk s (numV s).1 (numV s).2.1 (numV s).2.2.1 (numV s).2.2.2 w (fun W => signed_calls 35 (enters_of Tryz.func35 (by kernel_rfl) rfl) s (numV s).1 (numV s).2.1 (numV s).2.2.1 (numV s).2.2.2 W hn (show 0 ≤ (numV s).2.2.2 from (numV_err s).elim (fun h => by rw [h]; decide) (fun h => by rw [h]; decide)) (fun W' => number_calls s hs ha W'))
end Go.Proofs.YtioofhilohmfbaaGreatDoor
end
section
set_option linter.unusedVariables false
set_option linter.unusedSimpArgs false
namespace Go.Proofs.YtioofhilohmfbaaGreatDoor
open Go Go.RowKit Go.Lib Go.Proofs.YtioofhilohmfbaaGreatDoorW.PrintWords Go.Proofs.YtioofhilohmfbaaGreatDoorW.PrintLast Go.Proofs.YtioofhilohmfbaaGreatDoorW.PrintMore Go.Proofs.YtioofhilohmfbaaGreatDoor.P
/-- take's results, one form for both. -/
def TakeAny (w : World) (rest : ByteArray) (q1 : Bool) (q2 q3 : List Int) (is : Bool) (e : Ending) (w' : World) : Prop :=
  ∃ v1 v2 : Value, e = .returned (.tuple #[.agg #[.bool q1, v1, v2], .string rest, .bool is]) ∧ Kd.R (Kd.int .u32) 109 w' w.heap.size (fun k_ => some k_ ≠ v2.ownBlock) v1 q2 ∧ Kd.R (Kd.int .u32) 109 w' w.heap.size (fun k_ => some k_ ≠ v1.ownBlock) v2 q3 ∧ Below w.heap.size w w'
theorem TakeAny.no {w w' : World} {e : Ending} (h : TakeNo w e w') : TakeAny w ⟨#[]⟩ false [] [] false e w' := ⟨_, _, h.1, Kd.R_nil _ _ _ _ _, Kd.R_nil _ _ _ _ _, h.2⟩
def unitsV (l : List (ByteArray × Int)) : List Value := l.flatMap fun x => [.string x.1, .int .i64 x.2]
theorem units_cell : ∀ (l : List (ByteArray × Int)) (g o : Nat) (w : World), (∀ i x, l[i]? = some x → w.cell? ⟨g, o + i * 2, none⟩ = some (.string x.1) ∧ w.cell? ⟨g, o + i * 2 + 1, none⟩ = some (.int .i64 x.2)) → ∀ j v, (unitsV l)[j]? = some v → w.cell? ⟨g, o + j, none⟩ = some v
  | [], _, _, _, _, j, v, h => by simp [unitsV] at h
  | x :: l, g, o, w, H, 0, v, h => by
    have := (H 0 x rfl).1
    simp [unitsV] at h
    subst h
    simpa using this
  | x :: l, g, o, w, H, 1, v, h => by
    have := (H 0 x rfl).2
    simp [unitsV] at h
    subst h
    simpa using this
  | x :: l, g, o, w, H, j + 2, v, h => by
    have := units_cell l g (o + 2) w (fun i y hy => by
      have := H (i + 1) y (by simpa using hy)
      rw [show o + (i + 1) * 2 = o + 2 + i * 2 by omega] at this
      exact this) j v (by simpa [unitsV] using h)
    rw [show o + (j + 2) = o + 2 + j by omega]
    exact this
theorem units_load {g : Nat} {l : List (ByteArray × Int)} {w : World} (h : HoldsUnits g l w) (t : TypeId) (n : Nat) (hn : (unitsV l).length = n) (ha : ∀ w, (isAgg t).run Tryz.prog w = .ok true w) (hs : ∀ w, (sizeOf t).run Tryz.prog w = .ok n w) : (loadVar t ⟨g, 0, none⟩).run Tryz.prog w = .ok (.agg (unitsV l).toArray) w := by
  subst hn
  have := run_loadCells_list (P := Tryz.prog) w ⟨g, 0, none⟩ (unitsV l) (fun j v hj => by
    have := units_cell l g 0 w (fun i x hx => by have := h i x hx; simpa using this) j v hj
    have ea : (⟨g, 0, none⟩ : Addr).add j = ⟨g, j, none⟩ := by unfold Addr.add; split <;> simp_all
    rw [ea]; simpa using this)
  simp only [loadVar, Sem.run_bind, ha, hs, this, Result.andThen_ok, if_true, Sem.run_pure]
theorem run_index_array (P : Program) (t e : TypeId) (n m : Nat) (cs : Array Value) (i : Nat) (w : World) (h : P.underlying t = some (.array n e)) (hi : i < n) (ha : ∀ w, (isAgg e).run P w = .ok true w) (hs : ∀ w, (sizeOf e).run P w = .ok m w) : (Instr.index t (.agg cs) (.int .i64 (i : Int))).run P w = .ok (.agg (cs.extract (i * m) (i * m + m))) w := by
  have h1 : 0 ≤ (i : Int) ∧ (i : Int) < (n : Int) := by omega
  simp only [Instr.index, asIntOf, Sem.run_bind, Sem.run_pure, run_underlying h, Result.andThen_ok, h1, and_self, if_true, hs, part, ha, Int.toNat_natCast]
theorem units_part : ∀ (l : List (ByteArray × Int)) (j : Nat) (x : ByteArray × Int), l[j]? = some x → (unitsV l).toArray.extract (j * 2) (j * 2 + 2) = #[.string x.1, .int .i64 x.2]
  | [], j, x, h => by simp at h
  | y :: l, 0, x, h => by
    simp at h
    subst h
    simp [unitsV, List.extract]
  | y :: l, j + 1, x, h => by
    have := units_part l j x (by simpa using h)
    simp only [unitsV, List.flatMap_cons, List.extract_toArray, List.extract_eq_take_drop] at this ⊢
    rw [← this]
    congr 1
    have e1 : (j + 1) * 2 + 2 - (j + 1) * 2 = j * 2 + 2 - j * 2 := by omega
    have e2 : (j + 1) * 2 = j * 2 + 2 := by omega
    rw [e1, e2]
    simp
set_option maxRecDepth 100000 in
theorem sizes_index (w : World) (j : Nat) (x : ByteArray × Int) (h : sizesL[j]? = some x) : (Instr.index 137 (.agg (unitsV sizesL).toArray) (.int .i64 (j : Int))).run Tryz.prog w = .ok (.agg #[.string x.1, .int .i64 x.2]) w := by
  have hj : j < 9 := by have := (List.getElem?_eq_some_iff.1 h).1; simpa [sizesL] using this
  rw [run_index_array Tryz.prog 137 136 9 2 (unitsV sizesL).toArray j w (by kernel_rfl) hj (fun _ => rfl) (fun _ => rfl), units_part sizesL j x h]
theorem wpList_load_at {P : Program} {ops : Array Oper} {rest : List Oper} {o : Oper} {a : Act} {w : World} {Q : Exit → Act → World → Prop} (hgd : o.guard = none) (ty : TypeId) (x : Operand) (ho : o.op = .load ty x) (g : Nat) (hx : a.eval x = .pointer (some ⟨g, 0, none⟩)) (v : Value) (hl : (loadVar ty ⟨g, 0, none⟩).run P w = .ok v w) (h : wpList P ops Q rest (a.put o.dst v) w) : wpList P ops Q (o :: rest) a w :=
  Kd.event_run hgd (by unfold execOp; simp only [ho, hx, Instr.loadAt, Instr.sureAddr, Sem.run_bind, Sem.run_pure, Result.andThen_ok, hl]) h
theorem wpList_index_at {P : Program} {ops : Array Oper} {rest : List Oper} {o : Oper} {a : Act} {w : World} {Q : Exit → Act → World → Prop} (hgd : o.guard = none) (ty : TypeId) (x y : Operand) (ho : o.op = .index ty x y) (u iv v : Value) (hx : a.eval x = u) (hy : a.eval y = iv) (hl : (Instr.index ty u iv).run P w = .ok v w) (h : wpList P ops Q rest (a.put o.dst v) w) : wpList P ops Q (o :: rest) a w :=
  Kd.event_run hgd (by unfold execOp; simp only [ho, hx, hy, Sem.run_bind, Sem.run_pure, Result.andThen_ok, hl]) h
theorem V_set3 {e base g0 g1 : Nat} {W : World} {ok : Nat → Prop} {v : Value} {xs : List Int} {b' : Nat} (h : Kd.R (Kd.int .u32) e W base (fun k => ok k ∧ k ≠ g0 ∧ k ≠ g1) v xs) (u0 u1 u2 : Value) : Kd.V (Kd.int .u32) e (((W.setCell ⟨g1, 0, none⟩ u0).setCell ⟨g1, 1, none⟩ u1).setCell ⟨g1, 2, none⟩ u2) b' (fun _ => True) v xs :=
  Kd.V_mono (Kd.V_far (p := ⟨g1, 2, none⟩) (Kd.V_far (p := ⟨g1, 1, none⟩) (Kd.V_far (p := ⟨g1, 0, none⟩) (Kd.R_V (base' := b') h) (fun _ hk => hk.2.2) u0) (fun _ hk => hk.2.2) u1) (fun _ hk => hk.2.2) u2) (fun _ _ => trivial)
theorem sizes_nat {i : Nat} {x1 : ByteArray} {x2 : Int} (h : sizesL[i]? = some (x1, x2)) : ∃ n2 : Nat, x2 = (n2 : Int) ∧ n2 < 9223372036854775808 := by
  have hm : (x1, x2) ∈ sizesL := List.mem_of_getElem? h
  have hall : ∀ y ∈ sizesL, 0 ≤ y.2 ∧ y.2 < 9223372036854775808 := by decide
  have := hall _ hm
  exact ⟨x2.toNat, by have := this.1; simp at this; omega, by have := this.2; simp at this; omega⟩
/-- A value and an error are handed back; the error is 4 just where the text is none. -/
def SayPost (w : World) (p : Prop) (e : Ending) (w' : World) : Prop := ∃ (x : Bool) (A1 : Option Addr) (n1 c1 : Nat) (A2 : Option Addr) (n2 c2 : Nat) (c : Int), e = .returned (.tuple #[.agg #[.bool x, .slice A1 n1 c1, .slice A2 n2 c2], .int .i64 c]) ∧ (c = 4 ↔ ¬ p) ∧ Below w.heap.size w w'
def SizeP (is : Bool) (rest : ByteArray) : Prop := is = true ∧ ∃ x ∈ sizesL, x.1 = rest
theorem sizes_none {is : Bool} {rest : ByteArray} (h : ∀ k x, k < 9 → sizesL[k]? = some x → ¬ (is = true ∧ x.1 = rest)) : ¬ SizeP is rest := fun hc => by
  obtain ⟨h1, x, hx, h2⟩ := hc
  obtain ⟨k, hk, hk2⟩ := List.mem_iff_getElem.1 hx
  exact h k x hk (by rw [List.getElem?_eq_getElem hk, hk2]) ⟨h1, h2⟩
theorem sizes_some {i : Nat} {x1 rest : ByteArray} {x2 : Int} (h : sizesL[i]? = some (x1, x2)) (h2 : x1.toList = rest.toList) : SizeP true rest :=
  ⟨rfl, (x1, x2), List.mem_of_getElem? h, ByteArray.ext (Array.toList_inj.1 (by rw [← Lib.toList_data, ← Lib.toList_data]; exact h2))⟩
set_option maxRecDepth 100000 in
set_option maxHeartbeats 4000000 in
theorem Size_walk (s rest : ByteArray) (q1 : Bool) (q2 q3 : List Int) (is : Bool) (w : World) (hG : Aside0 (G w)) (hst : Aside0 (RatSt q1 q2 q3)) (T : ∀ W, Calls Tryz.prog 67 #[.string s] W (TakeAny W rest q1 q2 q3 is)) :
    Calls Tryz.prog 75 #[.string s] w (SayPost w (SizeP is rest)) := by
  have HT := Aside0.mk T
  clear T
  go_enter Tryz.func75, Tryz.ntmps75
  go_wp2_with (first
    | (go_at_call 67; (with_reducible refine (HT.out _).mono ?_); rintro e w1 ⟨v1, v2, rfl, h1, h2, hb⟩; have RB1 := Aside0.mk (RB.below (RB.new1 w) hb); have HB := Aside0.mk (below_step (below_alloc (Below.refl w.heap.size w) _) hb); have LO := Aside0.mk (show w.heap.size < (w.alloc (.cells #[.bool false, .slice none 0 0, .slice none 0 0] 41)).heap.size by simp); have LE := Aside0.mk (Nat.le_of_lt LO.out); have P1 := Aside0.mk h1; have P2 := Aside0.mk h2; obtain ⟨B1, d1, f1⟩ := Kd.R_slice P1.out; subst f1; obtain ⟨B2, d2, f2⟩ := Kd.R_slice P2.out; subst f2; clear h1 h2; clear hb)
    | ((with_reducible refine gate_dst (N := 4) rfl ?_); refine box_event ?hg (N := 4) ?hd (cs := #[.bool false, .slice none 0 0, .slice none 0 0]) (t := 41) ?hr ?_; (case hd => rfl); (case hg => rfl); (case hr => first | (go_simp; done) | (go_simp; rfl)); intro gb hgb w2 hbox hb; have RB2 := Aside0.mk (RB1.out.below hb); have HB2 := Aside0.mk (below_step HB.out hb); have BX := Aside0.mk hbox; have hne : gb ≠ w.heap.size := (by have := blk_lt RB1.out; omega); have hne2 : w.heap.size ≠ gb := Ne.symm hne; have GE := Aside0.mk (show w.heap.size ≤ gb by have := blk_lt RB1.out; omega); have Q1 := Aside0.mk (Kd.R_below (R_away P1.out LO.out (g1 := gb) (by omega)) hb); have Q2 := Aside0.mk (Kd.R_below (R_away P2.out LO.out (g1 := gb) (by omega)) hb); clear P1 P2; clear hb hgb hbox RB1 HB; obtain ⟨hc0, hc1, hc2, hf0, hf1, hf2⟩ := RB2.out.cells; have hb0 := (blk_cell BX.out 0); have hb1 := (blk_cell BX.out 1); have hb2 := (blk_cell BX.out 2); have hbf0 := blk_frozen BX.out 0; have hbf1 := blk_frozen BX.out 1; have hbf2 := blk_frozen BX.out 2; simp only [List.getElem?_toArray, List.getElem?_cons_zero, List.getElem?_cons_succ] at hb0 hb1 hb2)
    | ((with_reducible refine gate_dst (N := 15) rfl ?_); have RB3 := Aside0.mk (RB.far3 RB2.out hne2 (.bool q1) (.slice B1 q2.length d1) (.slice B2 q3.length d2)); have HB3 := Aside0.mk (below_far3 HB2.out GE.out (.bool q1) (.slice B1 q2.length d1) (.slice B2 q3.length d2)); have BX3 := Aside0.mk (blk_put (blk_put (blk_put BX.out 0 (.bool q1) (cs' := #[.bool q1, .slice none 0 0, .slice none 0 0]) rfl) 1 (.slice B1 q2.length d1) (cs' := #[.bool q1, .slice B1 q2.length d1, .slice none 0 0]) rfl) 2 (.slice B2 q3.length d2) (cs' := #[.bool q1, .slice B1 q2.length d1, .slice B2 q3.length d2]) rfl); have V1 := Aside0.mk (V_set3 (b' := 0) Q1.out (.bool q1) (.slice B1 q2.length d1) (.slice B2 q3.length d2)); have V2 := Aside0.mk (V_set3 (b' := 0) Q2.out (.bool q1) (.slice B1 q2.length d1) (.slice B2 q3.length d2)); clear Q1 Q2 BX RB2 HB2 hc0 hc1 hc2 hf0 hf1 hf2 hb0 hb1 hb2 hbf0 hbf1 hbf2; generalize ((w2.setCell ⟨gb, 0, none⟩ (.bool q1)).setCell ⟨gb, 1, none⟩ (.slice B1 q2.length d1)).setCell ⟨gb, 2, none⟩ (.slice B2 q3.length d2) = w3 at *; refine wpList_load_at rfl 137 _ rfl 3 rfl _ (units_load (hG.out.below HB3.out).sizes 137 18 rfl (fun _ => rfl) (fun _ => rfl)) ?_))
  go_loopg [16] 10 (fun kq v16 wr => ∃ (j : Int), v16 = .int .i64 j ∧ Aside0 (∃ i : Nat, j = (i : Int) ∧ i ≤ 9 ∧ 9 < kq + i ∧ ∀ k x, k < i → sizesL[k]? = some x → ¬ (is = true ∧ x.1 = rest)) ∧ Aside0 (RB w wr) ∧ Aside0 (wr.heap[gb]? = some (.cells #[.bool q1, .slice B1 q2.length d1, .slice B2 q3.length d2] 41 (0, 0))) ∧ Aside0 (Kd.V (Kd.int .u32) 109 wr 0 (fun _ => True) (.slice B1 q2.length d1) q2) ∧ Aside0 (Kd.V (Kd.int .u32) 109 wr 0 (fun _ => True) (.slice B2 q3.length d2) q3) ∧ Aside0 (Below w.heap.size w wr))
  case atStart => exact ⟨0, rfl, ⟨0, rfl, Nat.zero_le _, by omega, fun k x hk => absurd hk (Nat.not_lt_zero _)⟩, RB3, BX3, V1, V2, HB3⟩
  case round =>
    obtain ⟨j, rfl, ⟨i, hij, hi, hk, hN⟩, RB4, BX4, V14, V24, HB4⟩ := hrel
    cases gk with
    | zero => exact absurd hk (by omega)
    | succ kq =>
      by_cases hlt : i < 9
      · obtain ⟨x, hx⟩ : ∃ x, sizesL[i]? = some x := ⟨_, List.getElem?_eq_getElem (by simpa [sizesL] using hlt)⟩
        have hg : decide (j < 9) = true := decide_eq_true (by omega)
        have HJ : Aside0 (j = (i : Int) ∧ i < 9 ∧ 9 < kq + 1 + i) := ⟨hij, hlt, hk⟩
        have HX := Aside0.mk hx
        have HN := Aside0.mk hN
        have hix : ∀ w, (Instr.index 137 (.agg (unitsV sizesL).toArray) (.int .i64 j)).run Tryz.prog w = .ok (.agg #[.string x.1, .int .i64 x.2]) w := fun w => by rw [hij]; exact sizes_index w i x hx
        have HI := Aside0.mk hix
        clear hix hij hlt hk hx hN hi
        obtain ⟨x1, x2⟩ := x
        cases is with
        | false =>
          go_wp2_with ((with_reducible refine gate_dst (N := 18) rfl ?_); refine wpList_index_at rfl _ _ _ rfl _ _ _ rfl rfl (HI.out _) ?_)
          go_roundg kq
          case measure => have := HJ.out; omega
          case rel =>
            exact ⟨wrap64 (j + 1), rfl, ⟨i + 1, by have := HJ.out; unfold wrap64; omega, by have := HJ.out; omega, by have := HJ.out; omega, fun k x hk hx => (Nat.lt_succ_iff_lt_or_eq.1 hk).elim (fun h => HN.out k x h hx) (fun h => by rw [h, HX.out] at hx; cases hx; exact fun h => Bool.noConfusion h.1)⟩, ⟨blk_alloc RB4.out _⟩, ⟨blk_alloc BX4.out _⟩, ⟨Kd.V_alloc V14.out _⟩, ⟨Kd.V_alloc V24.out _⟩, ⟨below_alloc HB4.out _⟩⟩
        | true =>
          by_cases hx : x1.toList = rest.toList
          · have hxb : (x1.toList == rest.toList) = true := beq_iff_eq.2 hx
            have HX2 := Aside0.mk hx
            clear hx
            obtain ⟨n2, hn2, hn3⟩ : ∃ n2 : Nat, x2 = (n2 : Int) ∧ n2 < 9223372036854775808 := sizes_nat HX.out
            subst hn2
            obtain ⟨⟨ko, hko⟩, oko⟩ := rof_ev n2 hn3
            have EO := Aside0.mk (hko ko (Nat.le_refl _))
            obtain ⟨⟨m1, m2, m3, m4⟩, ⟨km, hkm⟩, hres⟩ := rmul_ev hst.out (show RatSt false (L n2) (L 1) from .inl ⟨n2, 1, rfl, rfl, oko⟩)
            have EM := Aside0.mk (hkm km (Nat.le_refl _))
            have ER := Aside0.mk hres
            clear hko hkm hres oko hn3
            go_wp2_with ((with_reducible refine gate_dst (N := 18) rfl ?_); refine wpList_index_at rfl _ _ _ rfl _ _ _ rfl rfl (HI.out _) ?_)
            have RB5 := Aside0.mk (show RB w (wr.alloc (.cells #[.string x1, .int .i64 (n2 : Int)] 136)) from blk_alloc RB4.out _)
            have BX5 := Aside0.mk (blk_alloc BX4.out (.cells #[.string x1, .int .i64 (n2 : Int)] 136))
            have V15 := Aside0.mk (Kd.V_alloc V14.out (.cells #[.string x1, .int .i64 (n2 : Int)] 136))
            have V25 := Aside0.mk (Kd.V_alloc V24.out (.cells #[.string x1, .int .i64 (n2 : Int)] 136))
            have HB5 := Aside0.mk (below_alloc HB4.out (.cells #[.string x1, .int .i64 (n2 : Int)] 136))
            have BU := Aside0.mk (blk_new wr (.cells #[.string x1, .int .i64 (n2 : Int)] 136))
            clear RB4 BX4 V14 V24 HB4
            generalize wr.alloc (.cells #[.string x1, .int .i64 (n2 : Int)] 136) = w5 at *
            generalize wr.heap.size = gu at *
            have hu1 := (blk_cell BU.out 1)
            have hb0 := (blk_cell BX5.out 0)
            have hb1 := (blk_cell BX5.out 1)
            have hb2 := (blk_cell BX5.out 2)
            simp only [List.getElem?_toArray, List.getElem?_cons_zero, List.getElem?_cons_succ] at hu1 hb0 hb1 hb2
            go_region_with (first
              | (go_at_call 103; (with_reducible refine (rat_Of.calls ko _ _ _ _ _ EO.out).mono ?_); rintro e w6 ⟨v1, v2, rfl, h1, h2, hb⟩; have BX6 := Aside0.mk (blk_below (by (with_reducible repeat (first | refine blk_drewN ?_ _ | refine blk_drew ?_ )); exact BX5.out) hb); have RB6 := Aside0.mk (show RB w w6 from blk_below (by (with_reducible repeat (first | refine blk_drewN ?_ _ | refine blk_drew ?_ )); exact RB5.out) hb); have V16 : Aside0 (∀ b, Kd.V (Kd.int .u32) 109 w6 b (fun _ => True) (.slice B1 q2.length d1) q2) := ⟨fun b => Kd.V_map (Kd.V_below (by (with_reducible repeat (first | apply Kd.V_drewN | apply Kd.V_drew)); exact V15.out) hb) (fun _ h => h)⟩; have V26 : Aside0 (∀ b, Kd.V (Kd.int .u32) 109 w6 b (fun _ => True) (.slice B2 q3.length d2) q3) := ⟨fun b => Kd.V_map (Kd.V_below (by (with_reducible repeat (first | apply Kd.V_drewN | apply Kd.V_drew)); exact V25.out) hb) (fun _ h => h)⟩; have U16 : Aside0 (∀ b, Kd.V (Kd.int .u32) 109 w6 b (fun _ => True) v1 (L n2)) := ⟨fun b => Kd.V_map (Kd.V_mono h1 (fun _ _ => trivial)) (fun _ h => h)⟩; have U26 : Aside0 (∀ b, Kd.V (Kd.int .u32) 109 w6 b (fun _ => True) v2 (L 1)) := ⟨fun b => Kd.V_map (Kd.V_mono h2 (fun _ _ => trivial)) (fun _ h => h)⟩; have HB6 := Aside0.mk (below_step (by repeat (first | (with_reducible first | exact HB5.out | apply pw_below_drewN | apply below_drew1) | exact HB5.out)) hb); clear h1 h2 hb; obtain ⟨A1, c1, e1⟩ := Kd.V_slice (U16.out 0); subst e1; obtain ⟨A2, c2, e2⟩ := Kd.V_slice (U26.out 0); subst e2; have hb0 := (blk_cell BX6.out 0); have hb1 := (blk_cell BX6.out 1); have hb2 := (blk_cell BX6.out 2); simp only [List.getElem?_toArray, List.getElem?_cons_zero, List.getElem?_cons_succ] at hb0 hb1 hb2)
              | (go_at_call 102; (with_reducible refine (rat_Mul.calls km q1 (fun _ => True) B1 d1 q2 (fun _ => True) B2 d2 q3 false (fun _ => True) A1 c1 (L n2) (fun _ => True) A2 c2 (L 1) m1 m2 m3 m4 _ (V16.out _) (V26.out _) (U16.out _) (U26.out _) EM.out).mono ?_); rintro e w7 ⟨v3, v4, rfl, h3, h4, hb⟩; have RB7 := Aside0.mk (RB6.out.below hb); have HB7 := Aside0.mk (below_step HB6.out hb); obtain ⟨A3, c3, e3⟩ := Kd.R_slice h3; subst e3; obtain ⟨A4, c4, e4⟩ := Kd.R_slice h4; subst e4; clear h3 h4 hb; obtain ⟨hc0, hc1, hc2, hf0, hf1, hf2⟩ := RB7.out.cells))
            all_goals go_wp2
            all_goals refine bodyPost_ret (results_ct rfl _ _ w.heap.size 41 #[.bool m1, .slice A3 m2.length c3, .slice A4 m3.length c4] (0, 0) _ rfl (RB.put RB7.out m1 _ _) Tryz.underlying41 rfl (by kernel_rfl)) rfl ?_
            all_goals exact ⟨_, _, _, _, _, _, _, m4, rfl, ⟨fun h => absurd h ER.out.ne4, fun h => absurd (sizes_some HX.out HX2.out) h⟩, below_put HB7.out _ _ _⟩
          · have hxb : (x1.toList == rest.toList) = false := beq_eq_false_iff_ne.2 hx
            have HX2 := Aside0.mk hx
            clear hx
            go_wp2_with ((with_reducible refine gate_dst (N := 18) rfl ?_); refine wpList_index_at rfl _ _ _ rfl _ _ _ rfl rfl (HI.out _) ?_)
            go_roundg kq
            case measure => have := HJ.out; omega
            case rel =>
              exact ⟨wrap64 (j + 1), rfl, ⟨i + 1, by have := HJ.out; unfold wrap64; omega, by have := HJ.out; omega, by have := HJ.out; omega, fun k x hk hx => (Nat.lt_succ_iff_lt_or_eq.1 hk).elim (fun h => HN.out k x h hx) (fun h => by rw [h, HX.out] at hx; cases hx; exact fun h => HX2.out (congrArg ByteArray.toList h.2))⟩, ⟨blk_alloc RB4.out _⟩, ⟨blk_alloc BX4.out _⟩, ⟨Kd.V_alloc V14.out _⟩, ⟨Kd.V_alloc V24.out _⟩, ⟨below_alloc HB4.out _⟩⟩
      · have hg : decide (j < 9) = false := decide_eq_false (by omega)
        have hi9 : i = 9 := by omega
        subst hi9
        have HN := Aside0.mk hN
        clear hN hij hi hk hlt
        obtain ⟨hc0, hc1, hc2, hf0, hf1, hf2⟩ := RB4.out.cells
        go_wp2
        refine bodyPost_ret (results_ct rfl _ _ w.heap.size 41 #[.bool false, .slice none 0 0, .slice none 0 0] (0, 0) _ rfl (RB.put RB4.out false _ _) Tryz.underlying41 rfl (by kernel_rfl)) rfl ?_
        exact ⟨_, _, _, _, _, _, _, 4, rfl, ⟨fun _ => sizes_none HN.out, fun _ => rfl⟩, below_put HB4.out _ _ _⟩
theorem takeF_st {s rest : ByteArray} {v d : Nat} (h : takeF s = some (rest, v, d)) : RatSt (redV false v d).1 (redV false v d).2.1 (redV false v d).2.2.1 := by
  unfold takeF at h
  by_cases hbt : badT (takeW s) (takeHas s) (takeP s) = true
  · rw [if_pos hbt] at h; cases h
  rw [if_neg hbt] at h
  injection h with h
  injection h with e1 h
  injection h with e2 e3
  have hsz : (takeW s).size + (takeP s).size ≤ 40 := by
    unfold badT at hbt
    simp only [Bool.or_eq_true, decide_eq_true_eq, not_or] at hbt
    omega
  have hl : ((takeW s).data.toList ++ (takeP s).data.toList).length ≤ 45 := by rw [List.length_append, ← Lib.size_eq, ← Lib.size_eq]; omega
  have h1 := decV_big hl (takeWP_digits s)
  rw [← e2, ← e3]
  refine (redV_res _ _ _ (big_mono h1 (by decide)) ?_ (Nat.pow_pos (by decide))).st
  refine big_mono (j := 8) ?_ (by decide)
  unfold big
  have h2 : 10 ^ (takeP s).size ≤ 10 ^ 45 := Nat.pow_le_pow_right (by decide) (by omega)
  have h3 : (10 : Nat) ^ 45 = 1000000000000000000000000000000000000000000000 := by decide
  have h4 : (4294967296 : Int) ^ 8 = 115792089237316195423570985008687907853269984665640564039457584007913129639936 := by decide
  rw [h4]
  omega
theorem take_any (s : ByteArray) (hs : s.size ≤ 1099511627776) (ha : asciiL s.data.toList = true) : ∃ (rest : ByteArray) (q1 : Bool) (q2 q3 : List Int) (is : Bool), (∀ w, Calls Tryz.prog 67 #[.string s] w (TakeAny w rest q1 q2 q3 is)) ∧ RatSt q1 q2 q3 ∧ is = (takeF s).isSome ∧ (∀ x, takeF s = some x → x.1 = rest) := by
  cases h : takeF s with
  | none => exact ⟨⟨#[]⟩, false, [], [], false, fun w => (take_none s hs ha w h).mono (fun _ _ => TakeAny.no), .inr ⟨rfl, rfl, rfl⟩, rfl, fun x hx => by cases hx⟩
  | some x =>
    obtain ⟨rest, v, d⟩ := x
    refine ⟨rest, _, _, _, true, fun w => (take_some s hs ha w rest v d h).mono (fun _ _ h => h), ?_, rfl, fun x hx => by cases hx; rfl⟩
    exact takeF_st h
/-- Is a text a size? -/
def sizeIs (s : ByteArray) : Bool := match takeF s with | some x => sizesL.any fun y => decide (y.1 = x.1) | none => false
theorem Size_calls (s : ByteArray) (hs : s.size ≤ 1099511627776) (ha : asciiL s.data.toList = true) (w : World) (hG : Aside0 (G w)) : Calls Tryz.prog 75 #[.string s] w (SayPost w (sizeIs s = true)) := by
  obtain ⟨rest, q1, q2, q3, is, hT, hst, his, hx⟩ := take_any s hs ha
  have := Size_walk s rest q1 q2 q3 is w hG ⟨hst⟩ hT
  have he : SizeP is rest = (sizeIs s = true) := by
    unfold sizeIs SizeP
    subst his
    cases h : takeF s with
    | none => simp
    | some x =>
      have := hx x h
      subst this
      simp
  rw [he] at this
  exact this
end Go.Proofs.YtioofhilohmfbaaGreatDoor
end
section
set_option linter.unusedVariables false
set_option linter.unusedSimpArgs false
namespace Go.Proofs.YtioofhilohmfbaaGreatDoor
open Go Go.RowKit Go.Lib Go.Proofs.YtioofhilohmfbaaGreatDoorW.PrintWords Go.Proofs.YtioofhilohmfbaaGreatDoorW.PrintLast Go.Proofs.YtioofhilohmfbaaGreatDoorW.PrintMore Go.Proofs.YtioofhilohmfbaaGreatDoor.P
def letB (c : UInt8) : Bool := decide (97 ≤ c.toNat ∧ c.toNat ≤ 122)
set_option maxRecDepth 100000 in
theorem dur1_calls (c : UInt8) (w : World) (hc : c.toNat < 128) : Calls Tryz.prog 140 #[.int .i32 (c.toNat : Int)] w fun e w' => e = .returned (.bool (!letB c)) ∧ Below w.heap.size w w' := by
  unfold letB
  obtain ⟨n, hn⟩ : ∃ n, c.toNat = n := ⟨_, rfl⟩
  rw [hn]
  by_cases h1 : n < 97
  · have c1 : decide ((n : Int) < 97) = true := decide_eq_true (by omega)
    have HE : Aside0 ((!decide (97 ≤ n ∧ n ≤ 122)) = true) := ⟨by simp; omega⟩
    clear hc hn h1
    go_enter Tryz.func140, Tryz.ntmps140
    go_wp2
    go_ret
    exact ⟨by rw [HE.out]; rfl, Below.refl _ _⟩
  · have c1 : decide ((n : Int) < 97) = false := decide_eq_false (by omega)
    by_cases h2 : 122 < n
    · have c2 : decide ((n : Int) > 122) = true := decide_eq_true (by omega)
      have c3 : decide (122 < (n : Int)) = true := decide_eq_true (by omega)
      have HE : Aside0 ((!decide (97 ≤ n ∧ n ≤ 122)) = true) := ⟨by simp; omega⟩
      clear hc hn h1 h2
      go_enter Tryz.func140, Tryz.ntmps140
      go_wp2
      go_ret
      exact ⟨by rw [HE.out]; rfl, Below.refl _ _⟩
    · have c2 : decide ((n : Int) > 122) = false := decide_eq_false (by omega)
      have c3 : decide (122 < (n : Int)) = false := decide_eq_false (by omega)
      have HE : Aside0 ((!decide (97 ≤ n ∧ n ≤ 122)) = false) := ⟨by simp; omega⟩
      clear hc hn h1 h2
      go_enter Tryz.func140, Tryz.ntmps140
      go_wp2
      go_ret
      exact ⟨by rw [HE.out]; rfl, Below.refl _ _⟩
/-- The unit of a name, from a unit on. -/
def timeAt (lo : Nat) (name : ByteArray) : Option Nat := (List.range 8).find? fun i => decide (lo ≤ i ∧ (timesL[i]?).map (·.1) = some name)
theorem timeAt_some {lo i : Nat} {name : ByteArray} {x : ByteArray × Int} (hx : timesL[i]? = some x) (hl : lo ≤ i) (he : x.1 = name) (hn : ∀ k y, k < i → timesL[k]? = some y → ¬ (lo ≤ k ∧ y.1 = name)) : timeAt lo name = some i := by
  have hi : i < 8 := by have := (List.getElem?_eq_some_iff.1 hx).1; simpa [timesL] using this
  unfold timeAt
  rw [List.find?_range_eq_some]
  refine ⟨by simp [hl, hx, he], by simpa using hi, fun k hk => ?_⟩
  have hk8 : k < timesL.length := by simp only [timesL, List.length_cons, List.length_nil]; omega
  have := hn k _ hk (List.getElem?_eq_getElem hk8)
  rw [List.getElem?_eq_getElem hk8]
  simp only [Option.map_some, Option.some.injEq]
  simp
  rcases Nat.lt_or_ge k lo with h | h
  · exact .inl h
  · exact .inr fun e => this ⟨h, e⟩
theorem timeAt_none {lo : Nat} {name : ByteArray} (hn : ∀ k y, k < 8 → timesL[k]? = some y → ¬ (lo ≤ k ∧ y.1 = name)) : timeAt lo name = none := by
  unfold timeAt
  rw [List.find?_eq_none]
  intro k hk
  have hk := List.mem_range.1 hk
  have hk8 : k < timesL.length := by simp only [timesL, List.length_cons, List.length_nil]; omega
  have := hn k _ hk (List.getElem?_eq_getElem hk8)
  rw [List.getElem?_eq_getElem hk8]
  simpa using this
theorem timeAt_ge {lo i : Nat} {name : ByteArray} (h : timeAt lo name = some i) : lo ≤ i ∧ i < 8 := by
  unfold timeAt at h
  have h1 := List.find?_some h
  have h2 := List.mem_of_find?_eq_some h
  simp only [decide_eq_true_eq] at h1
  exact ⟨h1.1, List.mem_range.1 h2⟩
def durNm (rest : ByteArray) : ByteArray := rest.extract 0 (runN letB rest.data.toList)
def durRs (rest : ByteArray) : ByteArray := rest.extract (runN letB rest.data.toList) rest.size
/-- Is a text a duration's, whose units lie behind lo? -/
def durK : Nat → Nat → ByteArray → Bool
  | 0, _, _ => false
  | f + 1, lo, s => match takeF s with
    | none => false
    | some x => match timeAt lo (durNm x.1) with
      | none => false
      | some i => if (durRs x.1).size = 0 then true else durK f (i + 1) (durRs x.1)
def durIs (s : ByteArray) : Bool := durK 9 0 s
/-- Is a text a duration's, and no longer than 100 bytes? -/
def timeIs (s : ByteArray) : Bool := decide (s.size ≤ 100) && durIs s
theorem durK_end (f lo : Nat) (s : ByteArray) (h : 8 ≤ lo) : durK f lo s = false := by
  cases f with
  | zero => rfl
  | succ f =>
    rw [durK]
    cases takeF s with
    | none => rfl
    | some x =>
      simp only
      cases hx : timeAt lo (durNm x.1) with
      | none => rfl
      | some i => exact absurd (timeAt_ge hx) (by omega)
theorem durK_fuel : ∀ (f g lo : Nat) (s : ByteArray), 9 ≤ f + lo → 9 ≤ g + lo → durK f lo s = durK g lo s
  | 0, g, lo, s, hf, hg => by rw [durK_end 0 lo s (by omega), durK_end g lo s (by omega)]
  | f + 1, 0, lo, s, hf, hg => by rw [durK_end (f + 1) lo s (by omega), durK_end 0 lo s (by omega)]
  | f + 1, g + 1, lo, s, hf, hg => by
    rw [durK, durK]
    cases takeF s with
    | none => rfl
    | some x =>
      simp only
      cases hx : timeAt lo (durNm x.1) with
      | none => rfl
      | some i =>
        have := timeAt_ge hx
        simp only
        rw [durK_fuel f g (i + 1) _ (by omega) (by omega)]
set_option maxRecDepth 100000 in
theorem run_index_times (w : World) (j : Nat) (x : ByteArray × Int) (h : timesL[j]? = some x) : (Instr.index 169 (.agg (unitsV timesL).toArray) (.int .i64 (j : Int))).run Tryz.prog w = .ok (.agg #[.string x.1, .int .i64 x.2]) w := by
  have hj : j < 8 := by have := (List.getElem?_eq_some_iff.1 h).1; simpa [timesL] using this
  rw [run_index_array Tryz.prog 169 136 8 2 (unitsV timesL).toArray j w (by kernel_rfl) hj (fun _ => rfl) (fun _ => rfl), units_part timesL j x h]
theorem times_nat {i : Nat} {x1 : ByteArray} {x2 : Int} (h : timesL[i]? = some (x1, x2)) : ∃ n2 : Nat, x2 = (n2 : Int) ∧ n2 < 9223372036854775808 := by
  have hm : (x1, x2) ∈ timesL := List.mem_of_getElem? h
  have hall : ∀ y ∈ timesL, 0 ≤ y.2 ∧ y.2 < 9223372036854775808 := by decide
  have := hall _ hm
  exact ⟨x2.toNat, by have := this.1; simp at this; omega, by have := this.2; simp at this; omega⟩
end Go.Proofs.YtioofhilohmfbaaGreatDoor
end
section
set_option linter.unusedVariables false
set_option linter.unusedSimpArgs false
namespace Go.Proofs.YtioofhilohmfbaaGreatDoor
open Go Go.RowKit Go.Lib Go.Proofs.YtioofhilohmfbaaGreatDoorW.PrintWords Go.Proofs.YtioofhilohmfbaaGreatDoorW.PrintLast Go.Proofs.YtioofhilohmfbaaGreatDoorW.PrintMore Go.Proofs.YtioofhilohmfbaaGreatDoor.P
attribute [local go_sem] max2_int min2_int max_two min_two max_three min_three max_four min_four
/-- The sum so far lies in a box. -/
structure DurBox (w W : World) (g : Nat) (x : Bool) (A1 : Option Addr) (n1 c1 : Nat) (A2 : Option Addr) (n2 c2 : Nat) (y z : List Int) : Prop where
  rb : RB w W
  bx : W.heap[g]? = some (.cells #[.bool x, .slice A1 n1 c1, .slice A2 n2 c2] 41 (0, 0))
  v1 : ∀ b, Kd.V (Kd.int .u32) 109 W b (fun _ => True) (.slice A1 n1 c1) y
  v2 : ∀ b, Kd.V (Kd.int .u32) 109 W b (fun _ => True) (.slice A2 n2 c2) z
  st : RatSt x y z
  hb : Below w.heap.size w W
  ge : w.heap.size < g
  e1 : n1 = y.length
  e2 : n2 = z.length
/-- How the loop over the parts stands. -/
def DurInv (R : Bool) (k : Nat) (s : ByteArray) (big lo : Int) (fi : Bool) : Prop := ∃ m : Nat, lo = (m : Int) - 1 ∧ 10 ≤ k + m ∧ s.size ≤ 1099511627776 ∧ asciiL s.data.toList = true ∧ m ≤ 8 ∧ (big = 0 ∨ big = 2 ∨ big = 20 ∨ big = 21) ∧ (((fi = true ∨ s.toList ≠ []) ∧ durK (9 - m) m s = R) ∨ (fi = false ∧ s.toList = [] ∧ R = true))
theorem RB.allocs {w W : World} (h : RB w W) : (∀ o, (W.alloc o).cell? ⟨w.heap.size, 0, none⟩ = some (.bool false)) ∧ (∀ o, (W.alloc o).cell? ⟨w.heap.size, 1, none⟩ = some (.slice none 0 0)) ∧ (∀ o, (W.alloc o).cell? ⟨w.heap.size, 2, none⟩ = some (.slice none 0 0)) ∧ (∀ o, (W.alloc o).frozen? ⟨w.heap.size, 0, none⟩ = false) ∧ (∀ o, (W.alloc o).frozen? ⟨w.heap.size, 1, none⟩ = false) ∧ (∀ o, (W.alloc o).frozen? ⟨w.heap.size, 2, none⟩ = false) :=
  ⟨fun o => blk_cell (blk_alloc h o) 0, fun o => blk_cell (blk_alloc h o) 1, fun o => blk_cell (blk_alloc h o) 2, fun o => blk_frozen (blk_alloc h o) 0, fun o => blk_frozen (blk_alloc h o) 1, fun o => blk_frozen (blk_alloc h o) 2⟩
theorem DurBox.below {w W W' : World} {g : Nat} {x : Bool} {A1 : Option Addr} {n1 c1 : Nat} {A2 : Option Addr} {n2 c2 : Nat} {y z : List Int} (h : DurBox w W g x A1 n1 c1 A2 n2 c2 y z) (hb : Below W.heap.size W W') : DurBox w W' g x A1 n1 c1 A2 n2 c2 y z :=
  ⟨h.rb.below hb, blk_below h.bx hb, fun b => Kd.V_below (h.v1 b) hb, fun b => Kd.V_below (h.v2 b) hb, h.st, below_step h.hb hb, h.ge, h.e1, h.e2⟩
theorem ext_mem {s : ByteArray} {a b : Nat} {c : UInt8} (h : c ∈ (s.extract a b).data.toList) : c ∈ s.data.toList := by
  rw [ByteArray.data_extract, Array.toList_extract, List.extract_eq_take_drop] at h
  exact List.mem_of_mem_drop (List.mem_of_mem_take h)
theorem DurBox.alloc {w W : World} {g : Nat} {x : Bool} {A1 : Option Addr} {n1 c1 : Nat} {A2 : Option Addr} {n2 c2 : Nat} {y z : List Int} (h : DurBox w W g x A1 n1 c1 A2 n2 c2 y z) (o : Obj) : DurBox w (W.alloc o) g x A1 n1 c1 A2 n2 c2 y z :=
  ⟨blk_alloc h.rb o, blk_alloc h.bx o, fun b => Kd.V_alloc (h.v1 b) o, fun b => Kd.V_alloc (h.v2 b) o, h.st, below_alloc h.hb o, h.ge, h.e1, h.e2⟩
theorem if_some1 {A B D : Type} {c : Prop} [Decidable c] {a : A} {b : B} {d : D} {x : A × B × D} (h : (if c then none else some (a, b, d)) = some x) : x.1 = a := by
  split at h
  · cases h
  · cases h
    rfl
theorem takeF_r3 {s : ByteArray} {x : ByteArray × Nat × Nat} (h : takeF s = some x) : x.1 = takeR3 s := by
  unfold takeF at h
  exact if_some1 h
theorem takeF_rest {s : ByteArray} (hs : s.size ≤ 1099511627776) (ha : asciiL s.data.toList = true) {x : ByteArray × Nat × Nat} (h : takeF s = some x) : x.1.size ≤ s.size ∧ asciiL x.1.data.toList = true := by
  have hin := take_in s hs ha
  have hr := takeF_r3 h
  clear h
  rw [hr]
  clear hr
  · skip
    have h3 : ∀ c, c ∈ (takeR3 s).data.toList → c ∈ (takeR2 s).data.toList := fun c hc => by
      unfold takeR3 at hc
      split at hc
      · exact ext_mem hc
      · exact hc
    have h2 : ∀ c, c ∈ (takeR2 s).data.toList → c ∈ (takeR1 s).data.toList := fun c hc => by
      unfold takeR2 Lib.trimPrefix at hc
      simp only at hc
      split at hc
      · exact List.mem_of_mem_drop hc
      · exact hc
    have h1 : ∀ c, c ∈ (takeR1 s).data.toList → c ∈ s.data.toList := fun c hc => ext_mem hc
    refine ⟨?_, ?_⟩
    · have hle := hin.hR
      clear hin h1 h2 h3 ha hs
      by_cases hh : takeHas s = true
      · have e : (takeR3 s).size = ((takeR2 s).extract (takeP s).size (takeR2 s).size).size := by unfold takeR3; rw [if_pos hh]
        rw [e, ByteArray.size_extract]
        exact Nat.le_trans (Nat.sub_le _ _) (Nat.le_trans (Nat.min_le_right _ _) hle)
      · have e : takeR3 s = takeR2 s := by unfold takeR3; rw [if_neg hh]
        rw [e]
        exact hle
    · exact List.all_eq_true.2 fun c hc => List.all_eq_true.1 ha c (h1 c (h2 c (h3 c hc)))
theorem durRs_eq (rest : ByteArray) : rest.extract (durNm rest).size rest.size = durRs rest := by
  unfold durRs durNm
  rw [ByteArray.size_extract]
  have h := runN_le letB rest.data.toList
  rw [← Lib.size_eq] at h
  rw [Nat.min_eq_left h, Nat.sub_zero]
theorem V_any {e : Nat} {W : World} {b0 : Nat} {ok : Nat → Prop} {v : Value} {xs : List Int} (h : Kd.V (Kd.int .u32) e W b0 ok v xs) : ∀ b, Kd.V (Kd.int .u32) e W b (fun _ => True) v xs := fun b => Kd.V_map (Kd.V_mono h (fun _ _ => trivial)) (fun _ h => h)
theorem blk3_allocs {W : World} {g : Nat} {t : TypeId} {a b c : Value} (h : W.heap[g]? = some (.cells #[a, b, c] t (0, 0))) : (∀ o, (W.alloc o).cell? ⟨g, 0, none⟩ = some a) ∧ (∀ o, (W.alloc o).cell? ⟨g, 1, none⟩ = some b) ∧ (∀ o, (W.alloc o).cell? ⟨g, 2, none⟩ = some c) ∧ (∀ o, (W.alloc o).frozen? ⟨g, 0, none⟩ = false) ∧ (∀ o, (W.alloc o).frozen? ⟨g, 1, none⟩ = false) ∧ (∀ o, (W.alloc o).frozen? ⟨g, 2, none⟩ = false) :=
  ⟨fun o => blk_cell (blk_alloc h o) 0, fun o => blk_cell (blk_alloc h o) 1, fun o => blk_cell (blk_alloc h o) 2, fun o => blk_frozen (blk_alloc h o) 0, fun o => blk_frozen (blk_alloc h o) 1, fun o => blk_frozen (blk_alloc h o) 2⟩
theorem V_put4 {e base g : Nat} {W : World} {ok : Nat → Prop} {v : Value} {xs : List Int} (h : Kd.R (Kd.int .u32) e W base ok v xs) (hg : g < base) (o : Obj) (u0 u1 u2 : Value) (b' : Nat) : Kd.V (Kd.int .u32) e ((((W.alloc o).setCell ⟨g, 0, none⟩ u0).setCell ⟨g, 1, none⟩ u1).setCell ⟨g, 2, none⟩ u2) b' (fun _ => True) v xs :=
  Kd.V_mono (Kd.V_far (p := ⟨g, 2, none⟩) (Kd.V_far (p := ⟨g, 1, none⟩) (Kd.V_far (p := ⟨g, 0, none⟩) (Kd.R_V (base' := b') (Kd.R_alloc (R_away h hg (Nat.le_refl W.heap.size)) o)) (fun _ hk => hk.2.1) u0) (fun _ hk => hk.2.1) u1) (fun _ hk => hk.2.1) u2) (fun _ _ => trivial)
theorem DurBox.put {w W : World} {g : Nat} {x : Bool} {A1 : Option Addr} {n1 c1 : Nat} {A2 : Option Addr} {n2 c2 : Nat} {y z : List Int} (h : DurBox w W g x A1 n1 c1 A2 n2 c2 y z) (o : Obj) {base : Nat} {ok1 ok2 : Nat → Prop} {x' : Bool} {B1 : Option Addr} {d1 : Nat} {B2 : Option Addr} {d2 : Nat} {y' z' : List Int} (h1 : Kd.R (Kd.int .u32) 109 W base ok1 (.slice B1 y'.length d1) y') (h2 : Kd.R (Kd.int .u32) 109 W base ok2 (.slice B2 z'.length d2) z') (hg : g < base) (hst : RatSt x' y' z') :
    DurBox w ((((W.alloc o).setCell ⟨g, 0, none⟩ (.bool x')).setCell ⟨g, 1, none⟩ (.slice B1 y'.length d1)).setCell ⟨g, 2, none⟩ (.slice B2 z'.length d2)) g x' B1 y'.length d1 B2 z'.length d2 y' z' :=
  ⟨RB.far3 (show RB w (W.alloc o) from blk_alloc h.rb o) (by have := h.ge; omega) _ _ _, blk_put (blk_put (blk_put (blk_alloc h.bx o) 0 (.bool x') (cs' := #[.bool x', .slice A1 n1 c1, .slice A2 n2 c2]) rfl) 1 (.slice B1 y'.length d1) (cs' := #[.bool x', .slice B1 y'.length d1, .slice A2 n2 c2]) rfl) 2 (.slice B2 z'.length d2) rfl, V_put4 h1 hg o _ _ _, V_put4 h2 hg o _ _ _, hst, below_far3 (below_alloc h.hb o) (by have := h.ge; omega) _ _ _, h.ge, rfl, rfl⟩
theorem dur_next {R : Bool} {m i f gq : Nat} {rest nm u1 : ByteArray} {u2 big : Int} (hD : (match timeAt m nm with | none => false | some i => if (durRs rest).size = 0 then true else durK f (i + 1) (durRs rest)) = R) (hU : timesL[i]? = some (u1, u2)) (hL : m ≤ i) (hx : u1.toList = nm.toList) (hN : ∀ k y, k < i → timesL[k]? = some y → ¬ (m ≤ k ∧ y.1 = nm)) (hK : 10 ≤ gq + 1 + m ∧ 9 - m = f + 1 ∧ m ≤ 8 ∧ rest.size ≤ 1099511627776 ∧ asciiL rest.data.toList = true) (hi : i < 8) (hbig : big = 0 ∨ big = 2 ∨ big = 20 ∨ big = 21) : DurInv R gq (durRs rest) big (i : Int) false := by
  have he : u1 = nm := ByteArray.ext (Array.toList_inj.1 (by rw [← Lib.toList_data, ← Lib.toList_data]; exact hx))
  rw [timeAt_some hU hL he hN] at hD
  simp only at hD
  obtain ⟨h1, h2, h3, h4, h5⟩ := hK
  have hsz : (durRs rest).size ≤ rest.size := by unfold durRs; rw [ByteArray.size_extract]; omega
  refine ⟨i + 1, by omega, by omega, by omega, ?_, by omega, hbig, ?_⟩
  · exact List.all_eq_true.2 fun c hc => List.all_eq_true.1 h5 c (ext_mem hc)
  · by_cases hz : (durRs rest).size = 0
    · rw [if_pos hz] at hD
      refine .inr ⟨rfl, ?_, hD.symm⟩
      rw [Lib.toList_data]
      exact List.length_eq_zero_iff.1 (by rw [← Lib.size_eq]; exact hz)
    · rw [if_neg hz] at hD
      refine .inl ⟨.inr fun h => hz ?_, ?_⟩
      · rw [Lib.toList_data] at h
        rw [Lib.size_eq, h]
        rfl
      · rw [← hD]
        exact durK_fuel _ _ _ _ (by omega) (by omega)
set_option maxRecDepth 100000 in
set_option maxHeartbeats 4000000 in
theorem duration_walk (s : ByteArray) (hs : s.size ≤ 1099511627776) (ha : asciiL s.data.toList = true) (w : World) (hG : Aside0 (G w)) : Calls Tryz.prog 101 #[.string s] w (SayPost w (durIs s = true)) := by
  obtain ⟨⟨ko, hko⟩, oko⟩ := rof_ev 0 (by decide)
  have EO := Aside0.mk (hko ko (Nat.le_refl _))
  have OK := Aside0.mk (show RatSt false (L 0) (L 1) from .inl ⟨0, 1, rfl, rfl, oko⟩)
  have HS := Aside0.mk (And.intro hs ha)
  obtain ⟨R, hR⟩ : ∃ R, durIs s = R := ⟨_, rfl⟩
  rw [hR]
  have HR := Aside0.mk hR
  clear hko oko hs ha hR
  go_enter Tryz.func101, Tryz.ntmps101
  go_wp2
  go_step3
  go_wp2_with (first
    | (go_at_call 103; (with_reducible refine (rat_Of.calls ko 0 _ _ _ _ EO.out).mono ?_); rintro e w1 ⟨v1, v2, rfl, h1, h2, hb⟩; have RB1 := Aside0.mk (RB.below (RB.new1 w) hb); have HB := Aside0.mk (below_step (below_alloc (Below.refl w.heap.size w) _) hb); have P1 := Aside0.mk (V_any h1); have P2 := Aside0.mk (V_any h2); obtain ⟨B1, d1, f1⟩ := Kd.V_slice (P1.out 0); subst f1; obtain ⟨B2, d2, f2⟩ := Kd.V_slice (P2.out 0); subst f2; clear h1 h2; clear hb))
  have DB0 := Aside0.mk (show DurBox w (w1.alloc (.cells #[.bool false, .slice B1 (L 0).length d1, .slice B2 (L 1).length d2] 41)) w1.heap.size false B1 (L 0).length d1 B2 (L 1).length d2 (L 0) (L 1) from ⟨blk_alloc RB1.out _, blk_new w1 _, V_any (Kd.V_alloc (P1.out 0) _), V_any (Kd.V_alloc (P2.out 0) _), OK.out, below_alloc HB.out _, blk_lt RB1.out, rfl, rfl⟩)
  clear RB1 HB P1 P2 OK EO
  generalize w1.alloc (.cells #[.bool false, .slice B1 (L 0).length d1, .slice B2 (L 1).length d2] 41) = w2 at *
  generalize w1.heap.size = g4 at *
  have INI := Aside0.mk (show ∃ (x : Bool) (y z : List Int) (A1 : Option Addr) (n1 c1 : Nat) (A2 : Option Addr) (n2 c2 : Nat), DurBox w w2 g4 x A1 n1 c1 A2 n2 c2 y z from ⟨_, _, _, _, _, _, _, _, _, DB0.out⟩)
  clear DB0
  go_step3
  go_wp2
  go_loopg [0, 5, 6, 7] 10 (fun kq v0 v5 v6 v7 wr => ∃ (s' : ByteArray) (big lo : Int) (fi : Bool), v0 = .string s' ∧ v5 = .int .i64 big ∧ v6 = .int .i64 lo ∧ v7 = .bool fi ∧ Aside0 (DurInv R kq s' big lo fi) ∧ Aside0 (∃ (x : Bool) (y z : List Int) (A1 : Option Addr) (n1 c1 : Nat) (A2 : Option Addr) (n2 c2 : Nat), DurBox w wr g4 x A1 n1 c1 A2 n2 c2 y z))
  case atStart => exact ⟨s, 0, -1, true, rfl, rfl, rfl, rfl, ⟨0, rfl, Nat.le_refl _, HS.out.1, HS.out.2, by decide, .inl rfl, .inl ⟨.inl rfl, HR.out⟩⟩, INI⟩
  case round =>
    obtain ⟨s1, big, lo, fi, rfl, rfl, rfl, rfl, HI, x, y, z, A1, n1, c1, A2, n2, c2, DB⟩ := hrel
    obtain rfl := DB.e1
    obtain rfl := DB.e2
    obtain ⟨m, rfl, hkm, hsz, has, hm8, hbig, hc | ⟨rfl, hse, hRt⟩⟩ := HI
    all_goals obtain ⟨gq, rfl⟩ : ∃ gq, gk = gq + 1 := ⟨gk - 1, by omega⟩
    rotate_left
    · have hseb : s1.toList.isEmpty = true := by rw [hse]; rfl
      have RT := Aside0.mk hRt
      have BG := Aside0.mk hbig
      have DBS := Aside0.mk DB
      have hb0 := (blk_cell DB.bx 0)
      have hb1 := (blk_cell DB.bx 1)
      have hb2 := (blk_cell DB.bx 2)
      simp only [List.getElem?_toArray, List.getElem?_cons_zero, List.getElem?_cons_succ] at hb0 hb1 hb2
      obtain ⟨hc0, hc1, hc2, hf0, hf1, hf2⟩ := DB.rb.cells
      clear hse hRt hkm hsz has hm8 hbig DB INI HR HS
      by_cases hb : big = 0
      · have cb1 : (big != 0) = false := by rw [hb]; rfl
        clear hb
        go_wp2
        rw [Exit.noGoto_ret]
        refine bodyPost_ret (results_ct rfl _ _ w.heap.size 41 #[.bool x, .slice A1 y.length c1, .slice A2 z.length c2] (0, 0) _ rfl (RB.put DBS.out.rb x _ _) Tryz.underlying41 rfl (by kernel_rfl)) rfl ?_
        exact ⟨_, _, _, _, _, _, _, 0, rfl, ⟨fun h => absurd h (by decide), fun h => absurd RT.out h⟩, below_put DBS.out.hb _ _ _⟩
      · have cb1 : (big != 0) = true := bne_iff_ne.2 hb
        clear hb
        go_wp2
        rw [Exit.noGoto_ret]
        refine bodyPost_ret (results_ct rfl _ _ w.heap.size 41 #[.bool false, .slice none 0 0, .slice none 0 0] (0, 0) _ rfl (RB.put DBS.out.rb false _ _) Tryz.underlying41 rfl (by kernel_rfl)) rfl ?_
        exact ⟨_, _, _, _, _, _, _, big, rfl, ⟨fun h => absurd h (by have := BG.out; omega), fun h => absurd RT.out h⟩, below_put DBS.out.hb _ _ _⟩
    · obtain ⟨f, hf⟩ : ∃ f, 9 - m = f + 1 := ⟨8 - m, by omega⟩
      obtain ⟨rest, q1, q2, q3, is, hT, hst, his, hx⟩ := take_any s1 hsz has
      have HT := Aside0.mk hT
      have hce : (fi = true) ∨ (fi = false ∧ s1.toList.isEmpty = false) := by
        cases fi with
        | true => exact .inl rfl
        | false => exact .inr ⟨rfl, by rcases hc.1 with h | h; exact absurd h (by decide); cases hh : s1.toList with | nil => exact absurd hh h | cons a l => rfl⟩
      have DBS := Aside0.mk DB
      clear DB INI HR HS hT
      cases is with
      | false =>
        have hR0 : R = false := by
          rw [← hc.2, hf, durK]
          cases h : takeF s1 with
          | none => rfl
          | some x => rw [h] at his; cases his
        have RT := Aside0.mk hR0
        clear hc his hx hst hR0 hf hkm hsz has hm8 hbig
        rcases hce with rfl | ⟨rfl, hcb⟩
        all_goals go_wp2_with (first
          | (go_at_call 67; (with_reducible refine (HT.out _).mono ?_); rintro e w1 ⟨v1, v2, rfl, h1, h2, hb⟩; have RB1 := Aside0.mk (DBS.out.rb.below hb); have HB := Aside0.mk (below_step DBS.out.hb hb); obtain ⟨hc0, hc1, hc2, hf0, hf1, hf2⟩ := RB1.out.allocs; obtain ⟨E1, d1, f1⟩ := Kd.R_slice h1; subst f1; obtain ⟨E2, d2, f2⟩ := Kd.R_slice h2; subst f2; clear h1 h2 hb))
        all_goals rw [Exit.noGoto_ret]
        all_goals refine bodyPost_ret (results_ct rfl _ _ w.heap.size 41 #[.bool false, .slice none 0 0, .slice none 0 0] (0, 0) _ rfl (RB.put (show RB w _ from blk_alloc RB1.out _) false _ _) Tryz.underlying41 rfl (by kernel_rfl)) rfl ?_
        all_goals exact ⟨_, _, _, _, _, _, _, 4, rfl, ⟨fun _ h => Bool.noConfusion (RT.out.symm.trans h), fun _ => rfl⟩, below_put (below_alloc HB.out _) _ _ _⟩
      | true =>
        obtain ⟨v0, hv0, hv1⟩ : ∃ v0, takeF s1 = some v0 ∧ v0.1 = rest := by
          cases h : takeF s1 with
          | none => rw [h] at his; cases his
          | some x => exact ⟨x, rfl, hx x h⟩
        have hdk : durK (9 - m) m s1 = match timeAt m (durNm rest) with | none => false | some i => if (durRs rest).size = 0 then true else durK f (i + 1) (durRs rest) := by
          rw [hf, durK, hv0]
          rw [← hv1] <;> rfl
        obtain ⟨hrs, hra⟩ := takeF_rest hsz has hv0
        rw [hv1] at hrs hra
        have hrz : rest.size ≤ 1099511627776 := by omega
        have HI := Aside0.mk (fun W => indexFunc_calls rest (by omega) hra 140 (enters_of Tryz.func140 (by kernel_rfl) rfl) _ dur1_calls W)
        have HK := Aside0.mk (And.intro hkm (And.intro hf (And.intro hm8 (And.intro hrz hra))))
        have HD := Aside0.mk (hdk.symm.trans hc.2)
        have QS := Aside0.mk hst
        have BG := Aside0.mk hbig
        clear hc his hx hst hf hkm hsz has hm8 hbig hdk hv0 hv1 hrs hra hrz
        obtain ⟨ix, hix⟩ : ∃ ix, idxN (fun c => !letB c) rest.data.toList = ix := ⟨_, rfl⟩
        rw [hix] at HI
        have HX := Aside0.mk hix
        clear hix
        rcases hce with rfl | ⟨rfl, hcb⟩
        all_goals (
          go_upto_if 40 with (first
            | (go_at_call 67; (with_reducible refine (HT.out _).mono ?_); rintro e w1 ⟨v1, v2, rfl, h1, h2, hb⟩; have DB1 := Aside0.mk (DBS.out.below hb); have P1 := Aside0.mk (V_any (Kd.R_V (base' := 0) h1)); have P2 := Aside0.mk (V_any (Kd.R_V (base' := 0) h2)); obtain ⟨E1, d1, f1⟩ := Kd.R_slice h1; subst f1; obtain ⟨E2, d2, f2⟩ := Kd.R_slice h2; subst f2; clear h1 h2 hb)
            | (go_at_call 93; (with_reducible refine (HI.out _).mono ?_); rintro e w7 ⟨rfl, hb⟩; have DB7 := Aside0.mk ((DB1.out.alloc _).below hb); have BX7 := Aside0.mk (blk_below (blk_new w1 _) hb); have R1 := Aside0.mk (fun b => Kd.V_below (Kd.V_alloc (P1.out b) _) hb); have R2 := Aside0.mk (fun b => Kd.V_below (Kd.V_alloc (P2.out b) _) hb); have GL := Aside0.mk (blk_lt DB1.out.bx); clear DB1 P1 P2 hb; generalize w1.heap.size = g8 at *))
          go_cut [11] from 22 to 92 (fun v11 wc => v11 = .string (durNm rest) ∧ Aside0 (DurBox w wc g4 x A1 y.length c1 A2 z.length c2 y z) ∧ Aside0 (wc.heap[g8]? = some (.cells #[.bool q1, .slice E1 q2.length d1, .slice E2 q3.length d2] 41 (0, 0))) ∧ Aside0 (∀ b, Kd.V (Kd.int .u32) 109 wc b (fun _ => True) (.slice E1 q2.length d1) q2) ∧ Aside0 (∀ b, Kd.V (Kd.int .u32) 109 wc b (fun _ => True) (.slice E2 q3.length d2) q3))
          case first =>
            have hxx := HX.out
            obtain ⟨hkm, hf, hm8, hrz, hra⟩ := HK.out
            by_cases hlt : runN letB rest.data.toList < rest.size
            · have e1 : ix = (runN letB rest.data.toList : Int) := by rw [← hxx]; unfold idxN; simp only [Bool.not_not]; rw [if_pos (by rw [← Lib.size_eq]; exact hlt)]
              have cb1 : decide (0 ≤ ix) = true := decide_eq_true (by omega)
              have cb2 : (0 ≤ ix) = True := eq_true (by omega)
              have cb3 : (ix ≤ (rest.size : Int)) = True := eq_true (by omega)
              have EN := Aside0.mk (show rest.extract 0 ix.toNat = durNm rest by unfold durNm; rw [e1, Int.toNat_natCast])
              clear hxx hkm hf hm8 hrz hra hlt e1
              rw [cb1]
              go_wp2
              go_meet
              case rel => exact ⟨by rw [EN.out], DB7, BX7, R1, R2⟩
            · have e1 : ix = -1 := by rw [← hxx]; unfold idxN; simp only [Bool.not_not]; rw [if_neg (by rw [← Lib.size_eq]; exact hlt)]
              have cb1 : decide (0 ≤ ix) = false := decide_eq_false (by omega)
              have EN := Aside0.mk (show rest = durNm rest by unfold durNm; rw [show runN letB rest.data.toList = rest.size by have := runN_le letB rest.data.toList; rw [← Lib.size_eq] at this; omega]; exact ByteArray.extract_zero_size.symm)
              clear hxx hkm hf hm8 hrz hra hlt e1
              rw [cb1]
              go_wp2
              go_meet
              case rel => exact ⟨congrArg Value.string EN.out, DB7, BX7, R1, R2⟩
          case rest =>
            obtain ⟨rfl, DB8, BX8, S1, S2⟩ := hcut
            clear DB7 BX7 R1 R2 HI HX HT DBS
            obtain ⟨nm, hnm⟩ : ∃ nm, durNm rest = nm := ⟨_, rfl⟩
            have hz : nm.size ≤ rest.size := by rw [← hnm]; unfold durNm; rw [ByteArray.size_extract]; omega
            have hrs := durRs_eq rest
            rw [hnm] at hrs HD ⊢
            have cb1 : ((nm.size : Int) ≤ (rest.size : Int)) = True := eq_true (by omega)
            have cb2 : (0 ≤ (nm.size : Int)) = True := eq_true (by omega)
            have HRS := Aside0.mk hrs
            have HNM := Aside0.mk hnm
            clear hnm hz hrs
            go_wp2_with ((with_reducible refine gate_dst (N := 48) rfl ?_); refine wpList_load_at rfl 169 _ rfl 7 rfl _ (units_load (hG.out.below DB8.out.hb).times 169 16 rfl (fun _ => rfl) (fun _ => rfl)) ?_)
            go_loopg [5, 6, 49] 9 (fun kj v5 v6 v49 wj => ∃ (j : Int), v5 = .int .i64 big ∧ v6 = .int .i64 ((m : Int) - 1) ∧ v49 = .int .i64 j ∧ Aside0 (∃ i : Nat, j = (i : Int) ∧ i ≤ 8 ∧ 8 < kj + i ∧ ∀ k y, k < i → timesL[k]? = some y → ¬ (m ≤ k ∧ y.1 = nm)) ∧ Aside0 (DurBox w wj g4 x A1 y.length c1 A2 z.length c2 y z) ∧ Aside0 (wj.heap[g8]? = some (.cells #[.bool q1, .slice E1 q2.length d1, .slice E2 q3.length d2] 41 (0, 0))) ∧ Aside0 (∀ b, Kd.V (Kd.int .u32) 109 wj b (fun _ => True) (.slice E1 q2.length d1) q2) ∧ Aside0 (∀ b, Kd.V (Kd.int .u32) 109 wj b (fun _ => True) (.slice E2 q3.length d2) q3))
            case atStart => exact ⟨0, rfl, rfl, rfl, ⟨0, rfl, Nat.zero_le _, by omega, fun k x hk => absurd hk (Nat.not_lt_zero _)⟩, DB8, BX8, S1, S2⟩
            case round =>
              obtain ⟨j, rfl, rfl, rfl, ⟨i, hij, hi, hk, hN⟩, DB9, BX9, T1, T2⟩ := hrel
              cases gk with
              | zero => exact absurd hk (by omega)
              | succ kj =>
                by_cases hlt : i < 8
                · obtain ⟨u, hu⟩ : ∃ u, timesL[i]? = some u := ⟨_, List.getElem?_eq_getElem (by simpa [timesL] using hlt)⟩
                  have hg : decide (j < 8) = true := decide_eq_true (by omega)
                  have HJ : Aside0 (j = (i : Int) ∧ i < 8 ∧ 8 < kj + 1 + i) := ⟨hij, hlt, hk⟩
                  have HU := Aside0.mk hu
                  have HN := Aside0.mk hN
                  have hix : ∀ w, (Instr.index 169 (.agg (unitsV timesL).toArray) (.int .i64 j)).run Tryz.prog w = .ok (.agg #[.string u.1, .int .i64 u.2]) w := fun w => by rw [hij]; exact run_index_times w i u hu
                  have HIX := Aside0.mk hix
                  obtain ⟨u1, u2⟩ := u
                  by_cases hx : u1.toList = nm.toList
                  · have hxb : (u1.toList != nm.toList) = false := by rw [bne_eq_false_iff_eq]; exact hx
                    have hxe : (u1.toList == nm.toList) = true := beq_iff_eq.2 hx
                    have HX2 := Aside0.mk hx
                    by_cases hl : m ≤ i
                    · have hlb : decide (j ≤ (m : Int) - 1) = false := decide_eq_false (by omega)
                      have HL := Aside0.mk hl
                      clear hix hij hlt hk hu hN hi hx hl
                      obtain ⟨n2, hn2, hn3⟩ : ∃ n2 : Nat, u2 = (n2 : Int) ∧ n2 < 9223372036854775808 := times_nat HU.out
                      subst hn2
                      obtain ⟨⟨ko, hko⟩, oko⟩ := rof_ev n2 hn3
                      have EO := Aside0.mk (hko ko (Nat.le_refl _))
                      obtain ⟨⟨kp, hkp⟩, okp⟩ := rof_ev 1000000 (by decide)
                      have EP := Aside0.mk (hkp kp (Nat.le_refl _))
                      obtain ⟨⟨m1, m2, m3, m4⟩, ⟨kd, hkd⟩, hresd⟩ := rdiv_ev (show RatSt false (L n2) (L 1) from .inl ⟨n2, 1, rfl, rfl, oko⟩) (show RatSt false (L 1000000) (L 1) from .inl ⟨1000000, 1, rfl, rfl, okp⟩)
                      have ED := Aside0.mk (hkd kd (Nat.le_refl _))
                      have RD := Aside0.mk hresd.nonneg
                      obtain ⟨⟨o1, o2, o3, o4⟩, ⟨km, hkm⟩, hresm⟩ := rmul_ev QS.out hresd.st
                      have EM := Aside0.mk (hkm km (Nat.le_refl _))
                      have RM := Aside0.mk hresm.nonneg
                      obtain ⟨⟨s1, s2, s3, s4⟩, ⟨ka, hka⟩, hresa⟩ := radd_ev DB9.out.st hresm.st
                      have EA := Aside0.mk (hka ka (Nat.le_refl _))
                      have RA := Aside0.mk hresa.nonneg
                      have SA := Aside0.mk hresa.st
                      clear hko hkp hkd hkm hka hresd hresm hresa oko okp hn3
                      go_wp2_with ((with_reducible refine gate_dst (N := 52) rfl ?_); refine wpList_index_at rfl _ _ _ rfl _ _ _ rfl rfl (HIX.out _) ?_)
                      have DB5 := Aside0.mk (DB9.out.alloc (.cells #[.string u1, .int .i64 (n2 : Int)] 136))
                      have BX5 := Aside0.mk (blk_alloc BX9.out (.cells #[.string u1, .int .i64 (n2 : Int)] 136))
                      have X51 := Aside0.mk (fun b => Kd.V_alloc (T1.out b) (.cells #[.string u1, .int .i64 (n2 : Int)] 136))
                      have X52 := Aside0.mk (fun b => Kd.V_alloc (T2.out b) (.cells #[.string u1, .int .i64 (n2 : Int)] 136))
                      have BU := Aside0.mk (blk_new wr (.cells #[.string u1, .int .i64 (n2 : Int)] 136))
                      clear DB9 BX9 T1 T2
                      generalize wr.alloc (.cells #[.string u1, .int .i64 (n2 : Int)] 136) = w5 at *
                      generalize wr.heap.size = gu at *
                      have hu1 := (blk_cell BU.out 1)
                      simp only [List.getElem?_toArray, List.getElem?_cons_zero, List.getElem?_cons_succ] at hu1
                      go_wp2_with (first
                        | (go_at_call 103; (with_reducible refine (rat_Of.calls ko (n2 : Int) _ _ _ _ EO.out).mono ?_); rintro e w6 ⟨v1, v2, rfl, h1, h2, hb⟩; have DB6 := Aside0.mk (DB5.out.below hb); have BX6 := Aside0.mk (blk_below BX5.out hb); have X61 := Aside0.mk (fun b => Kd.V_below (X51.out b) hb); have X62 := Aside0.mk (fun b => Kd.V_below (X52.out b) hb); have Y61 := Aside0.mk (V_any h1); have Y62 := Aside0.mk (V_any h2); obtain ⟨F1, f1, e1⟩ := Kd.V_slice (Y61.out 0); subst e1; obtain ⟨F2, f2, e2⟩ := Kd.V_slice (Y62.out 0); subst e2; clear h1 h2 hb DB5 BX5 X51 X52)
                        | (go_at_call 103; (with_reducible refine (rat_Of.calls kp 1000000 _ _ _ _ EP.out).mono ?_); rintro e w7 ⟨v3, v4, rfl, h1, h2, hb⟩; have DB7 := Aside0.mk (DB6.out.below hb); have BX7 := Aside0.mk (blk_below BX6.out hb); have X71 := Aside0.mk (fun b => Kd.V_below (X61.out b) hb); have X72 := Aside0.mk (fun b => Kd.V_below (X62.out b) hb); have Y71 := Aside0.mk (fun b => Kd.V_below (Y61.out b) hb); have Y72 := Aside0.mk (fun b => Kd.V_below (Y62.out b) hb); have Z71 := Aside0.mk (V_any h1); have Z72 := Aside0.mk (V_any h2); obtain ⟨F3, f3, e3⟩ := Kd.V_slice (Z71.out 0); subst e3; obtain ⟨F4, f4, e4⟩ := Kd.V_slice (Z72.out 0); subst e4; clear h1 h2 hb DB6 BX6 X61 X62 Y61 Y62)
                        | (go_at_call 141; (with_reducible refine (rat_Div.calls kd false (fun _ => True) F1 f1 (L n2) (fun _ => True) F2 f2 (L 1) false (fun _ => True) F3 f3 (L 1000000) (fun _ => True) F4 f4 (L 1) m1 m2 m3 m4 _ (Y71.out _) (Y72.out _) (Z71.out _) (Z72.out _) ED.out).mono ?_); rintro e w8 ⟨v5, v6, rfl, h1, h2, hb⟩; have DB8 := Aside0.mk (DB7.out.below hb); have BX8 := Aside0.mk (blk_below BX7.out hb); have X81 := Aside0.mk (fun b => Kd.V_below (X71.out b) hb); have X82 := Aside0.mk (fun b => Kd.V_below (X72.out b) hb); have Y81 := Aside0.mk (V_any (Kd.R_V (base' := 0) h1)); have Y82 := Aside0.mk (V_any (Kd.R_V (base' := 0) h2)); obtain ⟨F5, f5, e5⟩ := Kd.R_slice h1; subst e5; obtain ⟨F6, f6, e6⟩ := Kd.R_slice h2; subst e6; clear h1 h2 hb DB7 BX7 X71 X72 Y71 Y72 Z71 Z72; obtain ⟨hb0, hb1, hb2, hf0, hf1, hf2⟩ := blk3_allocs BX8.out)
                        | (go_at_call 102; (with_reducible refine (rat_Mul.calls km q1 (fun _ => True) E1 d1 q2 (fun _ => True) E2 d2 q3 m1 (fun _ => True) F5 f5 m2 (fun _ => True) F6 f6 m3 o1 o2 o3 o4 _ (Kd.V_alloc (X81.out _) _) (Kd.V_alloc (X82.out _) _) (Kd.V_alloc (Y81.out _) _) (Kd.V_alloc (Y82.out _) _) EM.out).mono ?_); rintro e wa ⟨v7, v8, rfl, h1, h2, hb⟩; have DBa := Aside0.mk ((DB8.out.alloc _).below hb); have Ya1 := Aside0.mk (V_any (Kd.R_V (base' := 0) h1)); have Ya2 := Aside0.mk (V_any (Kd.R_V (base' := 0) h2)); obtain ⟨F7, f7, e7⟩ := Kd.R_slice h1; subst e7; obtain ⟨F8, f8, e8⟩ := Kd.R_slice h2; subst e8; clear h1 h2 hb hb0 hb1 hb2 hf0 hf1 hf2 DB8 BX8 X81 X82 Y81 Y82; obtain ⟨hb0, hb1, hb2, hf0, hf1, hf2⟩ := blk3_allocs DBa.out.bx)
                        | (go_at_call 142; (with_reducible refine (rat_Add.calls ka x (fun _ => True) A1 c1 y (fun _ => True) A2 c2 z o1 (fun _ => True) F7 f7 o2 (fun _ => True) F8 f8 o3 s1 s2 s3 s4 _ ((DBa.out.alloc _).v1 _) ((DBa.out.alloc _).v2 _) (Kd.V_alloc (Ya1.out _) _) (Kd.V_alloc (Ya2.out _) _) EA.out).mono ?_); rintro e wb ⟨v9, va, rfl, h1, h2, hb⟩; have DBb := Aside0.mk ((DBa.out.alloc _).below hb); obtain ⟨F9, f9, e9⟩ := Kd.R_slice h1; subst e9; obtain ⟨Fa, fa, ea⟩ := Kd.R_slice h2; subst ea; have PB := Aside0.mk (fun o => DBb.out.put o h1 h2 (blk_lt (DBa.out.alloc _).bx) SA.out); clear h1 h2 hb hb0 hb1 hb2 hf0 hf1 hf2 DBa Ya1 Ya2; obtain ⟨hb0, hb1, hb2, hf0, hf1, hf2⟩ := blk3_allocs DBb.out.bx))
                      all_goals go_roundg gq
                      all_goals (first | exact Nat.le_refl _ | exact ⟨durRs rest, _, j, false, congrArg Value.string HRS.out, rfl, rfl, rfl, ⟨by rw [HJ.out.1]; exact dur_next HD.out HU.out HL.out HX2.out HN.out HK.out HJ.out.2.1 (by first | exact RA.out | exact RM.out | exact RD.out | exact BG.out)⟩, ⟨⟨s1, s2, s3, F9, _, f9, Fa, _, fa, PB.out _⟩⟩⟩)
                    · have hlb : decide (j ≤ (m : Int) - 1) = true := decide_eq_true (by omega)
                      have HL := Aside0.mk hl
                      clear hix hij hlt hk hu hN hi hx hl
                      go_wp2_with ((with_reducible refine gate_dst (N := 52) rfl ?_); refine wpList_index_at rfl _ _ _ rfl _ _ _ rfl rfl (HIX.out _) ?_)
                      go_roundg kj
                      case measure => have := HJ.out; omega
                      case rel =>
                        exact ⟨wrap64 (j + 1), rfl, rfl, rfl, ⟨i + 1, by have := HJ.out; unfold wrap64; omega, by have := HJ.out; omega, by have := HJ.out; omega, fun k y hk hy => (Nat.lt_succ_iff_lt_or_eq.1 hk).elim (fun h => HN.out k y h hy) (fun h => fun h2 => HL.out (h ▸ h2.1))⟩, ⟨DB9.out.alloc _⟩, ⟨blk_alloc BX9.out _⟩, ⟨fun b => Kd.V_alloc (T1.out b) _⟩, ⟨fun b => Kd.V_alloc (T2.out b) _⟩⟩
                  · have hxb : (u1.toList != nm.toList) = true := bne_iff_ne.2 hx
                    have hxe : (u1.toList == nm.toList) = false := beq_eq_false_iff_ne.2 hx
                    have HX2 := Aside0.mk hx
                    clear hix hij hlt hk hu hN hi hx
                    go_wp2_with ((with_reducible refine gate_dst (N := 52) rfl ?_); refine wpList_index_at rfl _ _ _ rfl _ _ _ rfl rfl (HIX.out _) ?_)
                    go_roundg kj
                    case measure => have := HJ.out; omega
                    case rel =>
                      exact ⟨wrap64 (j + 1), rfl, rfl, rfl, ⟨i + 1, by have := HJ.out; unfold wrap64; omega, by have := HJ.out; omega, by have := HJ.out; omega, fun k y hk hy => (Nat.lt_succ_iff_lt_or_eq.1 hk).elim (fun h => HN.out k y h hy) (fun h => fun h2 => by rw [h, HU.out] at hy; cases hy; exact HX2.out (congrArg ByteArray.toList h2.2))⟩, ⟨DB9.out.alloc _⟩, ⟨blk_alloc BX9.out _⟩, ⟨fun b => Kd.V_alloc (T1.out b) _⟩, ⟨fun b => Kd.V_alloc (T2.out b) _⟩⟩
                · have hg : decide (j < 8) = false := decide_eq_false (by omega)
                  have hi8 : i = 8 := by omega
                  subst hi8
                  have HN := Aside0.mk hN
                  clear hN hij hi hk hlt
                  obtain ⟨hc0, hc1, hc2, hf0, hf1, hf2⟩ := DB9.out.rb.cells
                  go_wp2
                  refine bodyPost_ret (results_ct rfl _ _ w.heap.size 41 #[.bool false, .slice none 0 0, .slice none 0 0] (0, 0) _ rfl (RB.put DB9.out.rb false _ _) Tryz.underlying41 rfl (by kernel_rfl)) rfl ?_
                  have hR0 : R = false := by rw [← HD.out, timeAt_none HN.out]
                  exact ⟨_, _, _, _, _, _, _, 4, rfl, ⟨fun _ h => Bool.noConfusion (hR0.symm.trans h), fun _ => rfl⟩, below_put DB9.out.hb _ _ _⟩)
end Go.Proofs.YtioofhilohmfbaaGreatDoor
end
section
set_option linter.unusedVariables false
set_option linter.unusedSimpArgs false
namespace Go.Proofs.YtioofhilohmfbaaGreatDoor
open Go Go.RowKit Go.Lib Go.Proofs.YtioofhilohmfbaaGreatDoorW.PrintWords Go.Proofs.YtioofhilohmfbaaGreatDoorW.PrintLast Go.Proofs.YtioofhilohmfbaaGreatDoorW.PrintMore Go.Proofs.YtioofhilohmfbaaGreatDoor.P
set_option maxRecDepth 100000 in
set_option maxHeartbeats 4000000 in
theorem signed_say (g : Nat) (eg : ∀ args w, (callFunc g args).run Tryz.prog w = .ok (.enter g args) w) (s : ByteArray) (p : Prop) (w : World) (hn : Lib.hasPrefix s.data.toList [45] = false) (T : ∀ W, Below w.heap.size w W → Calls Tryz.prog g #[.string s] W (SayPost W p)) : Calls Tryz.prog 34 #[.string s, .func (.func g) #[] #[]] w (SayPost w p) := by
  have hcp : strings_CutPrefix.f s ⟨#[45]⟩ = some (s, false) := by
    unfold strings_CutPrefix.f
    have h : Lib.hasPrefix s.data.toList (⟨#[45]⟩ : ByteArray).data.toList = false := hn
    rw [h]
    congr 2
    exact bytes_ext (by
      have : Lib.trimPrefix s.data.toList (⟨#[45]⟩ : ByteArray).data.toList = s.data.toList := by unfold Lib.trimPrefix; rw [h]; rfl
      simp [this])
  have CP := Aside0.mk hcp
  have HT := Aside0.mk T
  clear T hn hcp
  go_enter Tryz.func34, Tryz.ntmps34
  go_wp2_with (first
    | (go_at_call 65; (with_reducible refine (strings_CutPrefix.calls s _ _ _ _ CP.out).mono ?_); rintro e w0 ⟨rfl, hb⟩; have RB0 := Aside0.mk (RB.below (RB.new1 w) hb); have HB0 := Aside0.mk (below_step (below_alloc (Below.refl w.heap.size w) _) hb); clear hb)
    | (go_at_fn g; (with_reducible refine (HT.out _ HB0.out).mono ?_); rintro e w1 ⟨x, B1, n1, d1, B2, n2, d2, c, rfl, hc, hb⟩; have RB1 := Aside0.mk (RB0.out.below hb); have HB := Aside0.mk (below_step HB0.out hb); have HC := Aside0.mk hc; clear hc hb RB0 HB0)
    | ((with_reducible refine gate_dst (N := 7) rfl ?_); refine box_event ?hg (N := 7) ?hd (cs := #[.bool false, .slice none 0 0, .slice none 0 0]) (t := 41) ?hr ?_; (case hd => rfl); (case hg => rfl); (case hr => first | (go_simp; done) | (go_simp; rfl)); intro gb hgb w2 hbox hb; have RB2 := Aside0.mk (RB1.out.below hb); have HB2 := Aside0.mk (below_step HB.out hb); have BX := Aside0.mk hbox; have hne : gb ≠ w.heap.size := (by have := blk_lt RB1.out; omega); have hne2 : w.heap.size ≠ gb := Ne.symm hne; have GE := Aside0.mk (show w.heap.size ≤ gb by have := blk_lt RB1.out; omega); clear hb hgb hbox RB1 HB; obtain ⟨hc0, hc1, hc2, hf0, hf1, hf2⟩ := RB2.out.cells; have hb0 := (blk_cell BX.out 0); have hb1 := (blk_cell BX.out 1); have hb2 := (blk_cell BX.out 2); have hbf0 := blk_frozen BX.out 0; have hbf1 := blk_frozen BX.out 1; have hbf2 := blk_frozen BX.out 2; simp only [List.getElem?_toArray, List.getElem?_cons_zero, List.getElem?_cons_succ] at hb0 hb1 hb2))
  all_goals refine bodyPost_ret (results_ct rfl _ _ w.heap.size 41 #[.bool x, .slice B1 n1 d1, .slice B2 n2 d2] (0, 0) _ rfl (RB.put (RB.far3 RB2.out hne2 _ _ _) x _ _) Tryz.underlying41 rfl (by kernel_rfl)) rfl ?_
  all_goals first | exact ⟨_, _, _, _, _, _, _, c, rfl, HC.out, below_put (below_far3 HB2.out GE.out _ _ _) _ _ _⟩ | (obtain rfl : c = 0 := (by first | assumption | (exact beq_iff_eq.1 (by assumption)) | (exact of_decide_eq_true (by assumption))); exact ⟨_, _, _, _, _, _, _, 0, rfl, HC.out, below_put (below_far3 HB2.out GE.out _ _ _) _ _ _⟩)
set_option maxRecDepth 100000 in
set_option maxHeartbeats 4000000 in
theorem Time_calls (s : ByteArray) (hs : s.size ≤ 1099511627776) (ha : asciiL s.data.toList = true) (hn : Lib.hasPrefix s.data.toList [45] = false) (w : World) (hG : Aside0 (G w)) : Calls Tryz.prog 74 #[.string s] w (SayPost w (timeIs s = true)) := by
  by_cases hl : s.size ≤ 100
  · have hp : (timeIs s = true) = (durIs s = true) := by unfold timeIs; rw [decide_eq_true hl, Bool.true_and]
    rw [hp]
    have HT := Aside0.mk (fun W (hW : Below w.heap.size w W) => signed_say 101 (enters_of Tryz.func101 (by kernel_rfl) rfl) s (durIs s = true) W hn (fun W' hW' => duration_walk s hs ha W' ((hG.out.below hW).at hW')))
    have hg : decide ((s.size : Int) > 100) = false := decide_eq_false (by omega)
    have hg2 : decide (100 < (s.size : Int)) = false := decide_eq_false (by omega)
    clear hs ha hn hl hp
    go_enter Tryz.func74, Tryz.ntmps74
    go_wp2_with (first
      | (go_at_call 34; (with_reducible refine (HT.out _ (below_alloc (Below.refl w.heap.size w) _)).mono ?_); rintro e w1 ⟨x, B1, n1, d1, B2, n2, d2, c, rfl, hc, hb⟩; have RB1 := Aside0.mk (RB.below (RB.new1 w) hb); have HB := Aside0.mk (below_step (below_alloc (Below.refl w.heap.size w) _) hb); have HC := Aside0.mk hc; clear hc hb; obtain ⟨hc0, hc1, hc2, hf0, hf1, hf2⟩ := RB1.out.cells))
    refine bodyPost_ret (results_ct rfl _ _ w.heap.size 41 #[.bool x, .slice B1 n1 d1, .slice B2 n2 d2] (0, 0) _ rfl (RB.put RB1.out x _ _) Tryz.underlying41 rfl (by kernel_rfl)) rfl ?_
    exact ⟨_, _, _, _, _, _, _, c, rfl, HC.out, below_put HB.out _ _ _⟩
  · have hp : ¬ (timeIs s = true) := by unfold timeIs; rw [decide_eq_false hl, Bool.false_and]; exact Bool.false_ne_true
    have HP := Aside0.mk hp
    have hg : decide ((s.size : Int) > 100) = true := decide_eq_true (by omega)
    have hg2 : decide (100 < (s.size : Int)) = true := decide_eq_true (by omega)
    clear hs ha hn hl hp
    obtain ⟨hc0, hc1, hc2, hf0, hf1, hf2⟩ := (RB.new1 w).cells
    go_enter Tryz.func74, Tryz.ntmps74
    go_wp2
    refine bodyPost_ret (results_ct rfl _ _ w.heap.size 41 #[.bool false, .slice none 0 0, .slice none 0 0] (0, 0) _ rfl (RB.new1 w) Tryz.underlying41 rfl (by kernel_rfl)) rfl ?_
    exact ⟨_, _, _, _, _, _, _, 4, rfl, ⟨fun _ => HP.out, fun _ => rfl⟩, below_alloc (Below.refl w.heap.size w) _⟩
end Go.Proofs.YtioofhilohmfbaaGreatDoor
end
section
set_option linter.unusedVariables false
namespace Go.Proofs.YtioofhilohmfbaaGreatDoor
open Go Go.RowKit Go.Proofs.YtioofhilohmfbaaGreatDoorW.PrintWords
def unqLoop (dq : Bool) : Nat → ByteArray → List UInt8 → Option (List UInt8)
  | 0, _, _ => none
  | k + 1, r, acc => if r.size = 0 then some acc else
    if ((r.data.toList.getD 0 0).toNat : Int) = (if dq = true then 34 else 96) ∨ dq = true ∧ (r.data.toList.getD 0 0).toNat = 10 then none
    else if dq = true ∧ (r.data.toList.getD 0 0).toNat = 92 then
      match escapeP (r.extract 1 r.size) with
      | none => none
      | some x => unqLoop dq k x.2 (acc ++ x.1.data.toList)
    else unqLoop dq k (r.extract 1 r.size) (acc ++ [r.data.toList.getD 0 0])
def unquoteP (s : ByteArray) : Option (List UInt8) :=
  if s.size < 2 then none else
    if bt s 0 = bt s ((s.size : Int) - 1) then
      if bt s 0 = 34 then unqLoop true s.size (s.extract 1 (s.size - 1)) []
      else if bt s 0 = 96 then unqLoop false s.size (s.extract 1 (s.size - 1)) [] else none
    else none
def unqRes : Option (List UInt8) → Value
  | none => .tuple #[.string ⟨#[]⟩, .int .i64 40]
  | some l => .tuple #[.string ⟨l.toArray⟩, .int .i64 0]
theorem enc_size (r : Int) : (⟨(Lib.encodeRune r).toArray⟩ : ByteArray).size ≤ 4 := by
  have h2 := Lib.runeCells_le r
  rw [Lib.runeCells_length] at h2
  exact h2.2
theorem escapeP_size {s t r : ByteArray} (h : escapeP s = some (t, r)) : t.size ≤ 4 ∧ r.size < s.size := by
  have one : ∀ x : UInt8, (⟨#[x]⟩ : ByteArray).size = 1 := fun _ => rfl
  unfold escapeP at h
  split at h
  · cases h
  · rename_i h0
    split at h
    · cases h
      refine ⟨by rw [one]; omega, ?_⟩
      rw [ByteArray.size_extract]; omega
    · split at h
      · cases h
      · split at h
        · cases h
        · split at h
          · split at h
            · cases h
              refine ⟨by rw [one]; omega, ?_⟩
              rw [ByteArray.size_extract]; omega
            · split at h
              · cases h
                refine ⟨?_, by rw [ByteArray.size_extract]; omega⟩
                exact enc_size _
              · cases h
          · cases h
theorem isEmpty_of_size {s : ByteArray} (h : s.size = 0) : s.toList.isEmpty = true := by
  rw [← decide_eq_emptyBytes]
  exact decide_eq_true (by cases s with | mk d => cases d with | mk l => cases l with
    | nil => rfl
    | cons a l => simp [ByteArray.size] at h)
theorem isEmpty_of_size_ne {s : ByteArray} (h : ¬ s.size = 0) : s.toList.isEmpty = false := by
  rw [← decide_eq_emptyBytes]
  exact decide_eq_false (fun h2 => by rw [h2] at h; exact absurd h (by decide))
/-- One round's outcome, of the text that is left. -/
theorem unqLoop_succ (dq : Bool) (f : Int) (hf : f = if dq = true then 34 else 96) (k : Nat) (r : ByteArray) (acc : List UInt8) (h : 0 < r.size) :
    unqLoop dq (k + 1) r acc = if ((r[0]'h).toNat : Int) = f ∨ dq = true ∧ (r[0]'h).toNat = 10 then none
      else if dq = true ∧ (r[0]'h).toNat = 92 then
        match escapeP (r.extract 1 r.size) with
        | none => none
        | some x => unqLoop dq k x.2 (acc ++ x.1.data.toList)
      else unqLoop dq k (r.extract 1 r.size) (acc ++ [r[0]'h]) := by
  rw [unqLoop, if_neg (by omega), get0_eq r h, hf]
set_option maxRecDepth 100000 in
set_option maxHeartbeats 8000000 in
theorem unquote_calls (s : ByteArray) (hs : s.size ≤ 17592186044416) (w : World) (hG : Aside0 (G w)) :
    Calls Tryz.prog 14 #[.string s] w fun e w' => e = .returned (unqRes (unquoteP s)) ∧ Below w.heap.size w w' := by
  by_cases h2 : s.size < 2
  · have hr : unquoteP s = none := by unfold unquoteP; rw [if_pos h2]
    rw [hr]
    clear hr
    have c3b0 : decide ((s.size : Int) < 2) = true := decide_eq_true (by omega)
    have c3b1 : decide (s.size < 2) = true := decide_eq_true h2
    go_enter Tryz.func14, Tryz.ntmps14
    go_wp2
    go_quiet (fail)
    go_wp2
    go_ret2
    exact ⟨rfl, drewN_below _ _⟩
  · have c3b0 : decide ((s.size : Int) < 2) = false := decide_eq_false (by omega)
    have c3b1 : decide (s.size < 2) = false := decide_eq_false h2
    have hr : unquoteP s = if bt s 0 = bt s ((s.size : Int) - 1) then
      if bt s 0 = 34 then unqLoop true s.size (s.extract 1 (s.size - 1)) []
      else if bt s 0 = 96 then unqLoop false s.size (s.extract 1 (s.size - 1)) [] else none
      else none := by unfold unquoteP; rw [if_neg h2]
    have q5 : 0 < s.size := by omega
    have qi5 : 0 < (s.size : Int) := by omega
    have p9 : 0 ≤ (s.size : Int) - 1 := by omega
    have p9b : s.size - 1 < s.size := by omega
    have hx9 : ∀ h, ((s[((s.size : Int) - 1).toNat]'h).toNat : Int) = bt s ((s.size : Int) - 1) := bt_at s ((s.size : Int) - 1)
    have hx9b : ∀ h, ((s[s.size - 1]'h).toNat : Int) = bt s ((s.size : Int) - 1) := fun h => by
      have e : ((s.size : Int) - 1).toNat = s.size - 1 := by omega
      rw [← hx9 (by omega)]
      simp only [e]
    have hx5 : ∀ h : 0 < s.size, ((s[0]'h).toNat : Int) = bt s 0 := bt_at s 0
    obtain ⟨f, hf⟩ : ∃ f, f = bt s 0 := ⟨_, rfl⟩
    obtain ⟨l, hl⟩ : ∃ l, l = bt s ((s.size : Int) - 1) := ⟨_, rfl⟩
    have hl0 := bt_range s ((s.size : Int) - 1)
    have hf0 := bt_range s 0
    rw [← hf] at hr hx5 hf0
    rw [← hl] at hr hl0
    simp only [← hl] at hx9 hx9b
    clear hf hl
    by_cases hfl : f = l
    · subst hfl
      rw [if_pos rfl] at hr
      have b1 : (f != f) = false := by simp
      by_cases hm : f = 34 ∨ f = 96
      · obtain ⟨dq, hdq⟩ : ∃ dq : Bool, (f == 34) = dq := ⟨_, rfl⟩
        have hru : unquoteP s = unqLoop dq s.size (s.extract 1 (s.size - 1)) [] := by
          rw [hr]
          cases dq with
          | true => rw [if_pos (by simpa using hdq)]
          | false => rw [if_neg (by simpa using hdq), if_pos (by have : ¬ f = 34 := by simpa using hdq
                                                                 omega)]
        have hmk : f = if dq = true then 34 else 96 := by
          cases dq with
          | true => simpa using hdq
          | false => have : ¬ f = 34 := by simpa using hdq
                     rw [if_neg (by decide)]; omega
        have hdn : (f != 34) = !dq := by rw [bne, hdq]
        have hne96 : (f == 96) = !dq := by
          cases dq with
          | true => rw [hmk]; rfl
          | false => rw [hmk]; rfl
        have hn96 : dq = false → (f != 96) = false := fun h => by rw [bne, hne96, h]; rfl
        clear hr hm hne96
        obtain ⟨m, hm⟩ : ∃ m, m = unquoteP s := ⟨_, rfl⟩
        have hsz0 : (s.extract 1 (s.size - 1)).size = s.size - 2 := by rw [ByteArray.size_extract]; omega
        rw [← hm] at hru ⊢
        clear hm
        have HF : Aside0 (f = if dq = true then 34 else 96) := ⟨hmk⟩
        have HU := Aside0.mk hru
        have HS0 := Aside0.mk hsz0
        clear hmk hru hsz0
        have hlow : 1 ≤ (s.size : Int) - 1 := by omega
        rcases hq : dq with _ | _
        all_goals (rw [hq] at hdq hdn hn96; simp only [Bool.not_false, Bool.not_true] at hdn)
        · have hn96' := hn96 rfl
          clear hn96
          go_enter Tryz.func14, Tryz.ntmps14
          go_wp2
          go_quiet (fail)
          go_wp2
          go_quiet (fail)
          go_wp2
          go_loopg [0] s.size (fun kq v0 wr => ∃ (r : ByteArray) (acc : List UInt8), v0 = .string r ∧ Aside0 (r.size < kq ∧ m = unqLoop false kq r acc ∧ acc.length + 2 * r.size ≤ 2 * s.size) ∧ Aside0 (Bld w.heap.size w.heap.size acc wr) ∧ Aside0 (Below w.heap.size w wr))
          case atStart =>
            refine ⟨s.extract 1 (s.size - 1), [], rfl, ⟨by have := HS0.out; omega, by have := HU.out; rw [hq] at this; exact this, by have := HS0.out; simp only [List.length_nil]; omega⟩, ⟨?_⟩, ⟨?_⟩⟩
            · exact bld_new (w.drewN _)
            · exact (drewN_below w _).alloc (by simp) _
          case round =>
            clear hx5 hx9 hx9b c3b0 c3b1 q5 qi5 p9 p9b hlow HU HS0 h2
            obtain ⟨r, acc, rfl, HS, HD, HB⟩ := hrel
            obtain ⟨hS1, hS2, hS3⟩ := HS.out
            clear HS
            obtain ⟨k1, rfl⟩ : ∃ k1, gk = k1 + 1 := ⟨gk - 1, by omega⟩
            by_cases hr0 : r.size = 0
            · have t2 := isEmpty_of_size hr0
              have hres : m = some acc := by rw [hS2, unqLoop, if_pos hr0]
              clear hS2
              go_wp2_with (go_at_call 33; (with_reducible refine (bld_String w.heap.size w.heap.size acc _ HD.out HB.out.size).mono ?_); rintro e w3 ⟨rfl, hd3, hb3, hk3⟩)
              go_ret2
              exact ⟨by rw [hres]; rfl, HB.out.trans hb3⟩
            · have t2 := isEmpty_of_size_ne hr0
              have rp : 0 < r.size := by omega
              have rpi : 0 < (r.size : Int) := by omega
              have HE := hS2
              rw [unqLoop_succ false f (by have := HF.out; rw [hq] at this; exact this) k1 r acc rp] at HE
              clear hS2
              obtain ⟨c, hc⟩ : ∃ c, c = r[0]'rp := ⟨_, rfl⟩
              have hxc : ∀ h, r[0]'h = c := fun _ => hc.symm
              rw [← hc] at HE
              clear hc
              by_cases hcm : (c.toNat : Int) = f
              · have eb1 : ((c.toNat : Int) == f) = true := beq_iff_eq.mpr hcm
                rw [if_pos (Or.inl hcm)] at HE
                have hres : m = none := HE
                clear HE hcm
                go_wp2
                go_ret2
                exact ⟨by rw [hres]; rfl, HB.out⟩
              · have eb1 : ((c.toNat : Int) == f) = false := beq_eq_false_iff_ne.mpr hcm
                rw [if_neg (by rintro (h | ⟨h, _⟩); exact hcm h; cases h)] at HE
                rw [if_neg (by rintro ⟨h, _⟩; cases h)] at HE
                have HE' : Aside0 (m = unqLoop false k1 (r.extract 1 r.size) (acc ++ [c])) := ⟨HE⟩
                clear HE
                have HL : Aside0 ((r.extract 1 r.size).size < k1 ∧ (acc ++ [c]).length + 2 * (r.extract 1 r.size).size ≤ 2 * s.size ∧ acc.length + 1 ≤ 140737488355328) := ⟨by
                  have hrs : (r.extract 1 r.size).size = r.size - 1 := by rw [ByteArray.size_extract]; omega
                  rw [List.length_append]
                  simp only [List.length_cons, List.length_nil]
                  omega⟩
                go_wp2_with (go_at_call 32; (with_reducible refine (bld_WriteByte w.heap.size w.heap.size acc c _ HD.out HL.out.2.2 HB.out.size).mono ?_); rintro e w4 ⟨rfl, hd4, hb4, hk4⟩; have HB4 := Aside0.mk (HB.out.trans hb4); have HD4 := Aside0.mk hd4; clear hd4 hb4 hk4)
                go_roundg k1
                case measure => omega
                case rel => exact ⟨r.extract 1 r.size, _, rfl, ⟨HL.out.1, HE'.out, HL.out.2.1⟩, HD4, HB4⟩
        · clear hn96
          go_enter Tryz.func14, Tryz.ntmps14
          go_wp2
          go_quiet (fail)
          go_wp2
          go_quiet (fail)
          go_wp2
          go_loopg [0] s.size (fun kq v0 wr => ∃ (r : ByteArray) (acc : List UInt8), v0 = .string r ∧ Aside0 (r.size < kq ∧ m = unqLoop true kq r acc ∧ acc.length + 2 * r.size ≤ 2 * s.size) ∧ Aside0 (Bld w.heap.size w.heap.size acc wr) ∧ Aside0 (Below w.heap.size w wr))
          case atStart =>
            refine ⟨s.extract 1 (s.size - 1), [], rfl, ⟨by have := HS0.out; omega, by have := HU.out; rw [hq] at this; exact this, by have := HS0.out; simp only [List.length_nil]; omega⟩, ⟨?_⟩, ⟨?_⟩⟩
            · exact bld_new (w.drewN _)
            · exact (drewN_below w _).alloc (by simp) _
          case round =>
            clear hx5 hx9 hx9b c3b0 c3b1 q5 qi5 p9 p9b hlow HU HS0 h2
            obtain ⟨r, acc, rfl, HS, HD, HB⟩ := hrel
            obtain ⟨hS1, hS2, hS3⟩ := HS.out
            clear HS
            obtain ⟨k1, rfl⟩ : ∃ k1, gk = k1 + 1 := ⟨gk - 1, by omega⟩
            by_cases hr0 : r.size = 0
            · have t2 := isEmpty_of_size hr0
              have hres : m = some acc := by rw [hS2, unqLoop, if_pos hr0]
              clear hS2
              go_wp2_with (go_at_call 33; (with_reducible refine (bld_String w.heap.size w.heap.size acc _ HD.out HB.out.size).mono ?_); rintro e w3 ⟨rfl, hd3, hb3, hk3⟩)
              go_ret2
              exact ⟨by rw [hres]; rfl, HB.out.trans hb3⟩
            · have t2 := isEmpty_of_size_ne hr0
              have rp : 0 < r.size := by omega
              have rpi : 0 < (r.size : Int) := by omega
              have HE := hS2
              rw [unqLoop_succ true f (by have := HF.out; rw [hq] at this; exact this) k1 r acc rp] at HE
              clear hS2
              obtain ⟨c, hc⟩ : ∃ c, c = r[0]'rp := ⟨_, rfl⟩
              have hxc : ∀ h, r[0]'h = c := fun _ => hc.symm
              rw [← hc] at HE
              clear hc
              by_cases hcm : (c.toNat : Int) = f
              · have eb1 : ((c.toNat : Int) == f) = true := beq_iff_eq.mpr hcm
                rw [if_pos (Or.inl hcm)] at HE
                have hres : m = none := HE
                clear HE hcm
                go_wp2
                go_ret2
                exact ⟨by rw [hres]; rfl, HB.out⟩
              · have eb1 : ((c.toNat : Int) == f) = false := beq_eq_false_iff_ne.mpr hcm
                by_cases hnl : c.toNat = 10
                · have eb2 : ((c.toNat : Int) == 10) = true := beq_iff_eq.mpr (by omega)
                  rw [if_pos (Or.inr ⟨rfl, hnl⟩)] at HE
                  have hres : m = none := HE
                  clear HE
                  go_wp2
                  go_ret2
                  exact ⟨by rw [hres]; rfl, HB.out⟩
                · have eb2 : ((c.toNat : Int) == 10) = false := beq_eq_false_iff_ne.mpr (by omega)
                  rw [if_neg (by rintro (h | ⟨_, h⟩); exact hcm h; exact hnl h)] at HE
                  by_cases hsl : c.toNat = 92
                  · -- an escape
                    have eb3 : ((c.toNat : Int) == 92) = true := beq_iff_eq.mpr (by omega)
                    rw [if_pos ⟨rfl, hsl⟩] at HE
                    have hrs : (r.extract 1 r.size).size = r.size - 1 := by rw [ByteArray.size_extract]; omega
                    have hrs2 : (r.extract 1 r.size).size ≤ 17592186044416 := by omega
                    rcases hesc : escapeP (r.extract 1 r.size) with _ | ⟨tt, rr⟩
                    · rw [hesc] at HE
                      have hres : m = none := HE
                      have HC : ∀ W, Below w.heap.size w W → Calls Tryz.prog 30 #[.string (r.extract 1 r.size)] W fun e w' => e = .returned (.tuple #[.string ⟨#[]⟩, .string ⟨#[]⟩, .bool false]) ∧ Below W.heap.size W w' := fun W hW => by
                        have := escape_calls (r.extract 1 r.size) hrs2 W ⟨hG.out.below hW⟩
                        rw [hesc] at this; exact this
                      clear HE hesc
                      go_wp2_with (go_at_call 30; (with_reducible refine (HC _ HB.out).mono ?_); rintro e w3 ⟨rfl, hb3⟩)
                      go_ret2
                      exact ⟨by rw [hres]; rfl, below_step HB.out hb3⟩
                    · rw [hesc] at HE
                      have HE' : Aside0 (m = unqLoop true k1 rr (acc ++ tt.data.toList)) := ⟨HE⟩
                      obtain ⟨ht4, hrr⟩ := escapeP_size hesc
                      have HC : ∀ W, Below w.heap.size w W → Calls Tryz.prog 30 #[.string (r.extract 1 r.size)] W fun e w' => e = .returned (.tuple #[.string tt, .string rr, .bool true]) ∧ Below W.heap.size W w' := fun W hW => by
                        have := escape_calls (r.extract 1 r.size) hrs2 W ⟨hG.out.below hW⟩
                        rw [hesc] at this; exact this
                      clear HE hesc
                      have HL : Aside0 (rr.size < k1 ∧ (acc ++ tt.data.toList).length + 2 * rr.size ≤ 2 * s.size ∧ acc.length + tt.size ≤ 140737488355328) := ⟨by
                        have e1 : tt.data.toList.length = tt.size := (Lib.size_eq tt).symm
                        rw [List.length_append]
                        omega⟩
                      clear ht4 hrr hrs hrs2
                      go_wp2_with (first
                        | (go_at_call 30; (with_reducible refine (HC _ HB.out).mono ?_); rintro e w3 ⟨rfl, hb3⟩; have HB3 := Aside0.mk (below_step HB.out hb3); have HD3 := Aside0.mk (bldF_below HD.out hb3); clear hb3)
                        | (go_at_call 31; (with_reducible refine (bld_WriteString w.heap.size w.heap.size acc tt _ HD3.out HL.out.2.2 HB3.out.size).mono ?_); rintro e w4 ⟨rfl, hd4, hb4, hk4⟩; have HB4 := Aside0.mk (HB3.out.trans hb4); have HD4 := Aside0.mk hd4; clear hd4 hb4 hk4))
                      go_roundg k1
                      case measure => omega
                      case rel => exact ⟨rr, _, rfl, ⟨HL.out.1, HE'.out, HL.out.2.1⟩, HD4, HB4⟩
                  · have eb3 : ((c.toNat : Int) == 92) = false := beq_eq_false_iff_ne.mpr (by omega)
                    rw [if_neg (by rintro ⟨_, h⟩; exact hsl h)] at HE
                    have HE' : Aside0 (m = unqLoop true k1 (r.extract 1 r.size) (acc ++ [c])) := ⟨HE⟩
                    clear HE
                    have HL : Aside0 ((r.extract 1 r.size).size < k1 ∧ (acc ++ [c]).length + 2 * (r.extract 1 r.size).size ≤ 2 * s.size ∧ acc.length + 1 ≤ 140737488355328) := ⟨by
                      have hrs : (r.extract 1 r.size).size = r.size - 1 := by rw [ByteArray.size_extract]; omega
                      rw [List.length_append]
                      simp only [List.length_cons, List.length_nil]
                      omega⟩
                    go_wp2_with (go_at_call 32; (with_reducible refine (bld_WriteByte w.heap.size w.heap.size acc c _ HD.out HL.out.2.2 HB.out.size).mono ?_); rintro e w4 ⟨rfl, hd4, hb4, hk4⟩; have HB4 := Aside0.mk (HB.out.trans hb4); have HD4 := Aside0.mk hd4; clear hd4 hb4 hk4)
                    go_roundg k1
                    case measure => omega
                    case rel => exact ⟨r.extract 1 r.size, _, rfl, ⟨HL.out.1, HE'.out, HL.out.2.1⟩, HD4, HB4⟩
      · have hrn : unquoteP s = none := by rw [hr, if_neg (by omega), if_neg (by omega)]
        rw [hrn]
        have b2 : (f != 34) = true := bne_iff_ne.mpr (by omega)
        have b3 : (f != 96) = true := bne_iff_ne.mpr (by omega)
        clear hr hrn hm
        go_enter Tryz.func14, Tryz.ntmps14
        go_wp2
        go_quiet (fail)
        go_wp2
        go_ret2
        exact ⟨rfl, drewN_below _ _⟩
    · have b1 : (f != l) = true := bne_iff_ne.mpr hfl
      rw [if_neg hfl] at hr
      rw [hr]
      clear hr hfl
      go_enter Tryz.func14, Tryz.ntmps14
      go_wp2
      go_quiet (fail)
      go_wp2
      go_ret2
      exact ⟨rfl, drewN_below _ _⟩
end Go.Proofs.YtioofhilohmfbaaGreatDoor
namespace Go.Proofs.YtioofhilohmfbaaGreatDoor.P
open Go Go.RowKit Go.Proofs.YtioofhilohmfbaaGreatDoorW.PrintWords
def unq2 : Option (List UInt8) → ByteArray × Int
  | none => (⟨#[]⟩, 40)
  | some l => (⟨l.toArray⟩, 0)
def quote_Unquote.f (a0 : ByteArray) : Option (ByteArray × Int) := if a0.size ≤ 17592186044416 then some (unq2 (unquoteP a0)) else none
theorem quote_Unquote.calls (a0 : ByteArray) (r1 : ByteArray) (r2 : Int) (w : World) (hG : Aside0 (G w)) (h : quote_Unquote.f a0 = some (r1, r2)) :
    Calls Tryz.prog 14 #[.string a0] w fun e w' => e = .returned (.tuple #[.string r1, .int .i64 r2]) ∧ Below w.heap.size w w' := by
  unfold quote_Unquote.f at h
  split at h
  · rename_i hs
    have := unquote_calls a0 hs w hG
    revert h this
    cases unquoteP a0 with
    | none => intro h this; cases h; exact this
    | some l => intro h this; cases h; exact this
  · cases h
end Go.Proofs.YtioofhilohmfbaaGreatDoor.P
end
section
set_option linter.unusedVariables false
set_option linter.unusedSimpArgs false
namespace Go.Proofs.YtioofhilohmfbaaGreatDoor
open Go Go.RowKit Go.Lib Go.Proofs.YtioofhilohmfbaaGreatDoorW.PrintWords Go.Proofs.YtioofhilohmfbaaGreatDoorW.PrintLast Go.Proofs.YtioofhilohmfbaaGreatDoorW.PrintMore Go.Proofs.YtioofhilohmfbaaGreatDoor.P
abbrev mkB (l : List UInt8) : ByteArray := ⟨l.toArray⟩
def wordB (c : UInt8) : Bool := decide (97 ≤ c.toNat ∧ c.toNat ≤ 122) || decide (65 ≤ c.toNat ∧ c.toNat ≤ 90) || c.toNat == 95
def digL (c : UInt8) : Bool := decide (48 ≤ c.toNat ∧ c.toNat ≤ 57)
/-- The kind of a token that begins with a digit. -/
def kindP (own : ByteArray) : Int := if (numV own).2.2.2 ≠ 4 then 3 else if timeIs own = true then 4 else if sizeIs own = true then 5 else 0
/-- Where a text in quotes ends, behind the first mark. -/
def qEndC (q : UInt8) : List UInt8 → Option Nat
  | [] => none
  | [c] => if c = q then some 1 else none
  | c :: d :: t => if c = q then some 1 else if c = 92 ∧ q ≠ 96 then (qEndC q t).map (· + 2) else (qEndC q (d :: t)).map (· + 1)
/-- The sign that a text begins with. -/
def signP (l : List UInt8) : Option ByteArray := signsL.find? fun x => Lib.hasPrefix l x.data.toList
def firstP (l : List UInt8) : Int × ByteArray × Nat × Bool :=
  if l = [] then (0, ⟨#[]⟩, 0, false)
  else if wordB (l.headD 0) = true then (1, mkB (l.take (runN partB l)), runN partB l, true)
  else if digL (l.headD 0) = true then (kindP (mkB (l.take (runN numB l))), mkB (l.take (runN numB l)), runN numB l, kindP (mkB (l.take (runN numB l))) != 0)
  else if l.headD 0 = 34 ∨ l.headD 0 = 96 then
    match qEndC (l.headD 0) l.tail with
    | none => (2, ⟨#[]⟩, 0, false)
    | some j => (2, (unquoteP (mkB (l.take (j + 1)))).elim ⟨#[]⟩ mkB, j + 1, (unquoteP (mkB (l.take (j + 1)))).isSome)
  else match signP l with
    | none => (0, ⟨#[]⟩, 0, false)
    | some x => (6, x, x.size, true)
theorem runN_in (p : UInt8 → Bool) : ∀ (l : List UInt8), ∀ c ∈ l.take (runN p l), p c = true
  | [], c, h => by rw [List.take_nil] at h; cases h
  | d :: t, c, h => by
    rw [runN] at h
    split at h
    · next hc =>
      rw [Nat.add_comm, List.take_succ_cons, List.mem_cons] at h
      rcases h with rfl | h
      · exact hc
      · exact runN_in p t c h
    · cases h
theorem runN_pos {p : UInt8 → Bool} {l : List UInt8} (h0 : l ≠ []) (h : p (l.headD 0) = true) : 0 < runN p l := by
  cases l with
  | nil => exact absurd rfl h0
  | cons c t => rw [runN, if_pos (show p c = true from h)]; omega
theorem word_part {c : UInt8} (h : wordB c = true) : partB c = true := by
  unfold wordB at h
  unfold partB
  rw [h, Bool.true_or]
theorem dig_num {c : UInt8} (h : digL c = true) : numB c = true := by
  unfold digL at h
  unfold numB partB
  rw [h, Bool.or_true, Bool.true_or]
theorem qEndC_cons (q c : UInt8) (t : List UInt8) (h : ¬ (c = 92 ∧ q ≠ 96)) : qEndC q (c :: t) = if c = q then some 1 else (qEndC q t).map (· + 1) := by
  cases t with
  | nil => rw [qEndC]; rfl
  | cons d t => rw [qEndC, if_neg h]
theorem qEndC_slash (q : UInt8) (t : List UInt8) (hq : q ≠ 96) (h92 : q ≠ 92) : qEndC q (92 :: t) = (qEndC q (t.drop 1)).map (· + 2) := by
  cases t with
  | nil => rw [qEndC, if_neg (fun h => h92 h.symm)]; rfl
  | cons d t => rw [qEndC, if_neg (fun h => h92 h.symm), if_pos ⟨rfl, hq⟩]; rfl
theorem qEndC_le (q : UInt8) : ∀ (l : List UInt8) (j : Nat), qEndC q l = some j → 1 ≤ j ∧ j ≤ l.length ∧ (l.take j).getLast? = some q
  | [], j, h => by cases h
  | [c], j, h => by
    rw [qEndC] at h
    split at h
    · next hc =>
      cases h
      subst hc
      exact ⟨Nat.le_refl 1, Nat.le_refl 1, rfl⟩
    · cases h
  | c :: d :: t, j, h => by
    rw [qEndC] at h
    split at h
    · next hc =>
      cases h
      subst hc
      exact ⟨Nat.le_refl 1, by simp, rfl⟩
    · split at h
      · cases hr : qEndC q t with
        | none => rw [hr] at h; cases h
        | some i =>
          rw [hr] at h
          simp only [Option.map_some, Option.some.injEq] at h
          subst h
          obtain ⟨a, b, e⟩ := qEndC_le q t i hr
          refine ⟨by omega, by simp; omega, ?_⟩
          rw [List.take_succ_cons, List.take_succ_cons]
          cases hx : t.take i with
          | nil => rw [hx] at e; cases e
          | cons y ys => rw [hx] at e; simpa using e
      · cases hr : qEndC q (d :: t) with
        | none => rw [hr] at h; cases h
        | some i =>
          rw [hr] at h
          simp only [Option.map_some, Option.some.injEq] at h
          subst h
          obtain ⟨a, b, e⟩ := qEndC_le q (d :: t) i hr
          refine ⟨by omega, by simp only [List.length_cons] at b ⊢; omega, ?_⟩
          rw [List.take_succ_cons]
          cases hx : (d :: t).take i with
          | nil => rw [hx] at e; cases e
          | cons y ys => rw [hx] at e; simpa using e
/-! Signs. -/
theorem pre_iff (l p : List UInt8) : Lib.hasPrefix l p = true ↔ p <+: l := by
  rw [← List.isPrefixOf_iff_prefix]
  rfl
theorem signs_len : ∀ x ∈ signsL, 1 ≤ x.size ∧ x.size ≤ 2 ∧ x.data.toList.all (fun c => !blankB c) = true := by decide +kernel
theorem sign_split {l : List UInt8} {x : ByteArray} (h : signP l = some x) : x ∈ signsL ∧ x.data.toList <+: l ∧ ∃ us bs, signsL = us ++ x :: bs ∧ ∀ y ∈ us, ¬ y.data.toList <+: l := by
  unfold signP at h
  obtain ⟨h1, us, bs, h2, h3⟩ := List.find?_eq_some_iff_append.1 h
  refine ⟨by rw [h2]; simp, (pre_iff _ _).1 h1, us, bs, h2, fun y hy hp => ?_⟩
  have := h3 y hy
  rw [(pre_iff _ _).2 hp] at this
  exact absurd this (by decide)
/-! The token. -/
theorem part_small : ∀ c : Fin 256, numB (UInt8.ofNat c.val) = true → c.val < 128 ∧ c.val ≠ 45 ∧ blankB (UInt8.ofNat c.val) = false := by decide +kernel
theorem num_small (c : UInt8) (h : numB c = true) : c.toNat < 128 ∧ c.toNat ≠ 45 ∧ blankB c = false := by
  have := part_small ⟨c.toNat, c.toNat_lt⟩
  simp only [UInt8.ofNat_toNat] at this
  exact this h
/-- What a token that is one says of its bytes. -/
structure TokOk (l : List UInt8) (k : Int) (x : ByteArray) (n : Nat) : Prop where
  pos : 0 < n
  le : n ≤ l.length
  last : ∀ b, l[n - 1]? = some b → blankB b = false
  kind : 1 ≤ k ∧ k ≤ 6
  text : k = 2 → unquoteP (mkB (l.take n)) = some x.data.toList
  own : k ≠ 2 → x = mkB (l.take n)
  num : k = 3 → (numV (mkB (l.take n))).2.2.2 ≠ 4 ∧ ∀ c ∈ l.take n, numB c = true
theorem run_last {p : UInt8 → Bool} {l : List UInt8} (hp : ∀ c, p c = true → blankB c = false) (h : 0 < runN p l) : ∀ b, l[runN p l - 1]? = some b → blankB b = false := fun b hb => by
  refine hp b (runN_in p l b ?_)
  have h2 : (l.take (runN p l))[runN p l - 1]? = some b := by rw [List.getElem?_take_of_lt (by omega)]; exact hb
  exact List.mem_of_getElem? h2
theorem part_num {c : UInt8} (h : partB c = true) : numB c = true := by
  unfold numB
  rw [h, Bool.true_or]
theorem kindP_cases (s : ByteArray) : (kindP s = 3 ∧ (numV s).2.2.2 ≠ 4) ∨ kindP s = 4 ∨ kindP s = 5 ∨ kindP s = 0 := by
  unfold kindP
  split
  · next h => exact .inl ⟨rfl, h⟩
  · split
    · exact .inr (.inl rfl)
    · split
      · exact .inr (.inr (.inl rfl))
      · exact .inr (.inr (.inr rfl))
theorem firstP_ok {l : List UInt8} {n : Nat} {k : Int} {x : ByteArray} (h : firstP l = (k, x, n, true)) : TokOk l k x n := by
  unfold firstP at h
  by_cases hl : l = []
  · rw [if_pos hl] at h; cases h
  rw [if_neg hl] at h
  by_cases hw : wordB (l.headD 0) = true
  · rw [if_pos hw] at h
    injection h with e1 h
    injection h with e2 h
    injection h with e3 e4
    have hpos := runN_pos (p := partB) hl (word_part hw)
    subst e1 e2 e3
    exact ⟨hpos, runN_le _ _, run_last (fun c hc => (num_small c (part_num hc)).2.2) hpos, by decide, fun h => absurd h (by decide), fun _ => rfl, fun h => absurd h (by decide)⟩
  rw [if_neg hw] at h
  by_cases hd : digL (l.headD 0) = true
  · rw [if_pos hd] at h
    injection h with e1 h
    injection h with e2 h
    injection h with e3 e4
    have hpos := runN_pos (p := numB) hl (dig_num hd)
    subst e2 e3
    have hk : kindP (mkB (l.take (runN numB l))) ≠ 0 := bne_iff_ne.1 e4
    rw [e1] at hk
    have hc := kindP_cases (mkB (l.take (runN numB l)))
    rw [e1] at hc
    refine ⟨hpos, runN_le _ _, run_last (fun c hc => (num_small c hc).2.2) hpos, ?_, fun h => ?_, fun _ => rfl, fun h => ⟨?_, runN_in _ _⟩⟩
    · omega
    · omega
    · rcases hc with hc | hc | hc | hc
      · exact hc.2
      · omega
      · omega
      · omega
  rw [if_neg hd] at h
  by_cases hq : l.headD 0 = 34 ∨ l.headD 0 = 96
  · rw [if_pos hq] at h
    cases hr : qEndC (l.headD 0) l.tail with
    | none => rw [hr] at h; cases h
    | some j =>
      rw [hr] at h
      simp only at h
      injection h with e1 h
      injection h with e2 h
      injection h with e3 e4
      obtain ⟨a, b, e⟩ := qEndC_le _ _ j hr
      obtain ⟨c, t, rfl⟩ : ∃ c t, l = c :: t := by
        cases l with
        | nil => exact absurd rfl hl
        | cons c t => exact ⟨c, t, rfl⟩
      subst e1 e3
      simp only [List.headD_cons, List.tail_cons] at hq a b e hr
      refine ⟨by omega, by simp only [List.length_cons]; omega, fun y hy => ?_, by decide, fun _ => ?_, fun h => absurd rfl h, fun h => absurd h (by decide)⟩
      · have h2 : t[j - 1]? = some y := by
          have e : j + 1 - 1 = (j - 1) + 1 := by omega
          rw [e, List.getElem?_cons_succ] at hy
          exact hy
        have h3 : (t.take j).getLast? = some y := by
          rw [List.getLast?_eq_getElem?, List.length_take, Nat.min_eq_left b, List.getElem?_take_of_lt (by omega)]
          exact h2
        rw [e] at h3
        cases h3
        rcases hq with rfl | rfl
        · decide
        · decide
      · cases hu : unquoteP (mkB ((c :: t).take (j + 1))) with
        | none => rw [hu] at e4; cases e4
        | some y =>
          rw [hu] at e2
          rw [← e2]
          rfl
  rw [if_neg hq] at h
  cases hs : signP l with
  | none => rw [hs] at h; cases h
  | some y =>
    rw [hs] at h
    simp only at h
    injection h with e1 h
    injection h with e2 h
    injection h with e3 e4
    obtain ⟨h1, ⟨r, h2⟩, _⟩ := sign_split hs
    obtain ⟨g1, g2, g3⟩ := signs_len y h1
    subst e1 e2 e3
    have hsz := Lib.size_eq y
    have htk : l.take y.size = y.data.toList := by rw [← h2, hsz, List.take_left]
    refine ⟨by omega, by rw [← h2, List.length_append]; omega, fun b hb => ?_, by decide, fun h => absurd h (by decide), fun _ => ?_, fun h => absurd h (by decide)⟩
    · have h4 : (l.take y.size)[y.size - 1]? = some b := by rw [List.getElem?_take_of_lt (by omega)]; exact hb
      rw [htk] at h4
      have := List.all_eq_true.1 g3 b (List.mem_of_getElem? h4)
      simpa using this
    · rw [htk]
end Go.Proofs.YtioofhilohmfbaaGreatDoor
end
section
set_option linter.unusedVariables false
set_option linter.unusedSimpArgs false
namespace Go.Proofs.YtioofhilohmfbaaGreatDoor
open Go Go.RowKit Go.Lib Go.Proofs.YtioofhilohmfbaaGreatDoorW.PrintWords Go.Proofs.YtioofhilohmfbaaGreatDoorW.PrintLast Go.Proofs.YtioofhilohmfbaaGreatDoorW.PrintMore Go.Proofs.YtioofhilohmfbaaGreatDoor.P
theorem num_say (s : ByteArray) (hs : s.size ≤ 1099511627776) (ha : asciiL s.data.toList = true) (hn : Lib.hasPrefix s.data.toList [45] = false) (w : World) : Calls Tryz.prog 15 #[.string s] w (SayPost w ((numV s).2.2.2 ≠ 4)) :=
  (Number_calls s hs ha hn w).mono fun e w' ⟨v1, v2, he, h1, h2, hb⟩ => by
    obtain ⟨B1, d1, f1⟩ := Kd.R_slice h1
    subst f1
    obtain ⟨B2, d2, f2⟩ := Kd.R_slice h2
    subst f2
    exact ⟨_, _, _, _, _, _, _, _, he, ⟨fun h hc => hc h, fun h => Classical.byContradiction h⟩, hb⟩
set_option maxRecDepth 100000 in
set_option maxHeartbeats 4000000 in
theorem measured_calls (s : ByteArray) (hs : s.size ≤ 1099511627776) (ha : asciiL s.data.toList = true) (hn : Lib.hasPrefix s.data.toList [45] = false) (w : World) (hG : Aside0 (G w)) : Calls Tryz.prog 49 #[.string s] w fun e w' => e = .returned (.tuple #[.int .i64 (kindP s), .bool (kindP s != 0)]) ∧ Below w.heap.size w w' := by
  have CN := Aside0.mk (fun W => num_say s hs ha hn W)
  have CT := Aside0.mk (fun W (hW : Below w.heap.size w W) => Time_calls s hs ha hn W (hG.out.at hW))
  have CS := Aside0.mk (fun W (hW : Below w.heap.size w W) => Size_calls s hs ha W (hG.out.at hW))
  clear hs ha hn hG
  have HB0 := Aside0.mk (Below.refl w.heap.size w)
  go_enter Tryz.func49, Tryz.ntmps49
  go_wp2
  go_loopg [10] 4 (fun kq v10 wr => ∃ (j : Int), v10 = .int .i64 j ∧ Aside0 (∃ i : Nat, j = (i : Int) ∧ i ≤ 3 ∧ 3 < kq + i ∧ (0 < i → ¬ (numV s).2.2.2 ≠ 4) ∧ (1 < i → ¬ timeIs s = true) ∧ (2 < i → ¬ sizeIs s = true)) ∧ Aside0 (∃ T, wr.heap[w.heap.size]? = some (.cells #[.func (.func 15) #[] #[], .func (.func 74) #[] #[], .func (.func 75) #[] #[]] T (0, 0))) ∧ Aside0 (Below w.heap.size w wr))
  case atStart => exact ⟨0, rfl, ⟨0, rfl, Nat.zero_le _, by omega, fun h => absurd h (by decide), fun h => absurd h (by decide), fun h => absurd h (by decide)⟩, ⟨_, blk_new w _⟩, ⟨below_alloc HB0.out _⟩⟩
  case round =>
    obtain ⟨j, rfl, ⟨i, hij, hi, hk, z0, z1, z2⟩, ⟨T, hBK⟩, HB⟩ := hrel
    have BK := Aside0.mk hBK
    have hcell0 := blk_cell hBK 0
    have hcell1 := blk_cell hBK 1
    have hcell2 := blk_cell hBK 2
    simp only [List.getElem?_toArray, List.getElem?_cons_zero, List.getElem?_cons_succ] at hcell0 hcell1 hcell2
    clear hBK
    obtain ⟨kq, rfl⟩ : ∃ kq, gk = kq + 1 := ⟨gk - 1, by omega⟩
    have HJ : Aside0 (3 < kq + 1 + i) := ⟨hk⟩
    have Z0 := Aside0.mk z0
    have Z1 := Aside0.mk z1
    have Z2 := Aside0.mk z2
    obtain h0 | h0 | h0 | h0 : i = 0 ∨ i = 1 ∨ i = 2 ∨ i = 3 := by omega
    · subst h0
      obtain rfl : j = 0 := hij
      clear hi hk z0 z1 z2
      by_cases hp : (numV s).2.2.2 ≠ 4
      · have HP := Aside0.mk hp
        have HK := Aside0.mk (show kindP s = 3 by unfold kindP; rw [if_pos hp])
        clear hp
        go_wp2_with ((first | go_at_call 15 | go_at_fn 15); (with_reducible refine (CN.out _).mono ?_); rintro e w1 ⟨x, B1, n1, d1, B2, n2, d2, c, rfl, hc, hb⟩; have BK1 := Aside0.mk (blk_below BK.out hb); have HB1 := Aside0.mk (below_step HB.out hb); have hce : (c == 4) = false := beq_eq_false_iff_ne.2 (fun h => hc.1 h HP.out); have hcn : (c != 4) = true := bne_iff_ne.2 (fun h => hc.1 h HP.out); clear hc hb)
        go_ret2
        exact ⟨by rw [HK.out]; rfl, below_alloc HB1.out _⟩
      · have HP := Aside0.mk hp
        clear hp
        go_wp2_with ((first | go_at_call 15 | go_at_fn 15); (with_reducible refine (CN.out _).mono ?_); rintro e w1 ⟨x, B1, n1, d1, B2, n2, d2, c, rfl, hc, hb⟩; have BK1 := Aside0.mk (blk_below BK.out hb); have HB1 := Aside0.mk (below_step HB.out hb); have hce : (c == 4) = true := beq_iff_eq.2 (hc.2 HP.out); have hcn : (c != 4) = false := (by rw [bne_eq_false_iff_eq]; exact hc.2 HP.out); clear hc hb)
        go_roundg kq
        all_goals first | exact Nat.le_refl _ | exact ⟨_, rfl, ⟨1, by first | rfl | decide, by decide, by have := HJ.out; omega, fun _ => HP.out, fun h => absurd h (by decide), fun h => absurd h (by decide)⟩, ⟨_, blk_alloc BK1.out _⟩, ⟨below_alloc HB1.out _⟩⟩
    · subst h0
      obtain rfl : j = 1 := hij
      clear hi hk z0 z1 z2
      by_cases hp : timeIs s = true
      · have HP := Aside0.mk hp
        have HK := Aside0.mk (show kindP s = 4 by unfold kindP; rw [if_neg (Z0.out (by decide)), if_pos hp])
        clear hp
        go_wp2_with ((first | go_at_call 74 | go_at_fn 74); (with_reducible refine (CT.out _ HB.out).mono ?_); rintro e w1 ⟨x, B1, n1, d1, B2, n2, d2, c, rfl, hc, hb⟩; have BK1 := Aside0.mk (blk_below BK.out hb); have HB1 := Aside0.mk (below_step HB.out hb); have hce : (c == 4) = false := beq_eq_false_iff_ne.2 (fun h => hc.1 h HP.out); have hcn : (c != 4) = true := bne_iff_ne.2 (fun h => hc.1 h HP.out); clear hc hb)
        go_ret2
        exact ⟨by rw [HK.out]; rfl, below_alloc HB1.out _⟩
      · have HP := Aside0.mk hp
        clear hp
        go_wp2_with ((first | go_at_call 74 | go_at_fn 74); (with_reducible refine (CT.out _ HB.out).mono ?_); rintro e w1 ⟨x, B1, n1, d1, B2, n2, d2, c, rfl, hc, hb⟩; have BK1 := Aside0.mk (blk_below BK.out hb); have HB1 := Aside0.mk (below_step HB.out hb); have hce : (c == 4) = true := beq_iff_eq.2 (hc.2 HP.out); have hcn : (c != 4) = false := (by rw [bne_eq_false_iff_eq]; exact hc.2 HP.out); clear hc hb)
        go_roundg kq
        all_goals first | exact Nat.le_refl _ | exact ⟨_, rfl, ⟨2, by first | rfl | decide, by decide, by have := HJ.out; omega, fun _ => Z0.out (by decide), fun _ => HP.out, fun h => absurd h (by decide)⟩, ⟨_, blk_alloc BK1.out _⟩, ⟨below_alloc HB1.out _⟩⟩
    · subst h0
      obtain rfl : j = 2 := hij
      clear hi hk z0 z1 z2
      by_cases hp : sizeIs s = true
      · have HP := Aside0.mk hp
        have HK := Aside0.mk (show kindP s = 5 by unfold kindP; rw [if_neg (Z0.out (by decide)), if_neg (Z1.out (by decide)), if_pos hp])
        clear hp
        go_wp2_with ((first | go_at_call 75 | go_at_fn 75); (with_reducible refine (CS.out _ HB.out).mono ?_); rintro e w1 ⟨x, B1, n1, d1, B2, n2, d2, c, rfl, hc, hb⟩; have BK1 := Aside0.mk (blk_below BK.out hb); have HB1 := Aside0.mk (below_step HB.out hb); have hce : (c == 4) = false := beq_eq_false_iff_ne.2 (fun h => hc.1 h HP.out); have hcn : (c != 4) = true := bne_iff_ne.2 (fun h => hc.1 h HP.out); clear hc hb)
        go_ret2
        exact ⟨by rw [HK.out]; rfl, below_alloc HB1.out _⟩
      · have HP := Aside0.mk hp
        clear hp
        go_wp2_with ((first | go_at_call 75 | go_at_fn 75); (with_reducible refine (CS.out _ HB.out).mono ?_); rintro e w1 ⟨x, B1, n1, d1, B2, n2, d2, c, rfl, hc, hb⟩; have BK1 := Aside0.mk (blk_below BK.out hb); have HB1 := Aside0.mk (below_step HB.out hb); have hce : (c == 4) = true := beq_iff_eq.2 (hc.2 HP.out); have hcn : (c != 4) = false := (by rw [bne_eq_false_iff_eq]; exact hc.2 HP.out); clear hc hb)
        go_roundg kq
        all_goals first | exact Nat.le_refl _ | exact ⟨_, rfl, ⟨3, by first | rfl | decide, by decide, by have := HJ.out; omega, fun _ => Z0.out (by decide), fun _ => Z1.out (by decide), fun _ => HP.out⟩, ⟨_, blk_alloc BK1.out _⟩, ⟨below_alloc HB1.out _⟩⟩
    · subst h0
      obtain rfl : j = 3 := hij
      have HK := Aside0.mk (show kindP s = 0 by unfold kindP; rw [if_neg (z0 (by decide)), if_neg (z1 (by decide)), if_neg (z2 (by decide))])
      clear hi hk z0 z1 z2
      go_wp2
      go_ret2
      exact ⟨by rw [HK.out]; rfl, HB.out⟩
end Go.Proofs.YtioofhilohmfbaaGreatDoor
end
section
namespace Go.Proofs.YtioofhilohmfbaaGreatDoor.P
open Go.RowKit Go.Proofs.YtioofhilohmfbaaGreatDoorW.PrintWords Go.Proofs.YtioofhilohmfbaaGreatDoorW.PrintLast Go.Proofs.YtioofhilohmfbaaGreatDoorW.PrintMore
attribute [local go_sem] max2_int min2_int max_two min_two max_three min_three max_four min_four
set_option linter.unusedVariables false
set_option linter.unusedSimpArgs false
/-! ### lex_quoted: function 50 -/
def lex_quoted.l0 : Nat → ByteArray → Int → Option (ByteArray × Bool)
  | 0, _, _ => none
  | k + 1, x0, x4 => if x4 < (x0.size : Int) then (if 0 ≤ x4 then (if 0 < (x0.size : Int) then (if (bt x0 x4) = (bt x0 0) then (if 0 ≤ (wrap64 (x4 + 1)) then (if (wrap64 (x4 + 1)) ≤ (x0.size : Int) then (some (x0.extract 0 ((wrap64 (x4 + 1)) : Int).toNat, true)) else (none)) else (none)) else (if (bt x0 x4) = 92 then (if (bt x0 0) = 96 then (lex_quoted.l0 k x0 (wrap64 (x4 + 1))) else (lex_quoted.l0 k x0 (wrap64 ((wrap64 (x4 + 1)) + 1)))) else (lex_quoted.l0 k x0 (wrap64 (x4 + 1))))) else (none)) else (none)) else (some ((⟨#[]⟩ : ByteArray), false))
def lex_quoted.f (k : Nat) (a0 : ByteArray) : Option (ByteArray × Bool) := lex_quoted.l0 k a0 1
theorem lex_quoted.mono_l : ∀ k, (∀ y0 y1, LeO (lex_quoted.l0 k y0 y1) (lex_quoted.l0 (k + 1) y0 y1))
  | 0 => fun _ _ r h => by simp [lex_quoted.l0] at h
  | k + 1 => by
    have ih0 := lex_quoted.mono_l k
    · intro y0 y1
      unfold lex_quoted.l0
      repeat' first
      | (with_reducible exact ih0 _ _)
      | (with_reducible exact LeO.refl _)
      | (with_reducible exact LeO.none _)
      | (with_reducible refine LeO.ite ?_ ?_)
      | (with_reducible refine LeO.bind ?_ (fun _ => ?_))
      | exact ih0 _ _
      | exact LeO.none _
      | refine LeO.ite ?_ ?_
      | refine LeO.bind ?_ (fun _ => ?_)
theorem lex_quoted.mono : ∀ a0 k, LeO (lex_quoted.f k a0) (lex_quoted.f (k + 1) a0) := by
  intro a0 k
  have ih0 := lex_quoted.mono_l k
  unfold lex_quoted.f
  repeat' first
      | (with_reducible exact ih0 _ _)
      | (with_reducible exact LeO.refl _)
      | (with_reducible exact LeO.none _)
      | (with_reducible refine LeO.ite ?_ ?_)
      | (with_reducible refine LeO.bind ?_ (fun _ => ?_))
      | exact ih0 _ _
      | exact LeO.none _
      | refine LeO.ite ?_ ?_
      | refine LeO.bind ?_ (fun _ => ?_)
set_option maxHeartbeats 8000000 in
set_option maxRecDepth 100000 in
theorem lex_quoted.calls (k : Nat) (a0 : ByteArray) (r1 : ByteArray) (r2 : Bool) (w : World) (h : lex_quoted.f k a0 = some (r1, r2)) :
    Calls Tryz.prog 50 #[.string a0] w fun e w' => e = .returned (.tuple #[.string r1, .bool r2]) ∧ Drawn0 w w' := by
  have H : (lex_quoted.l0 k a0 1) = some (r1, r2) := h
  clear h
  have H' := Aside0.mk H
  clear H
  go_enter Tryz.func50, Tryz.ntmps50
  go_wp2
  go_loopg [4] k (fun kq v4 w' => ∃ (x4_1 : Int), v4 = .int .i64 x4_1 ∧ Aside0 (lex_quoted.l0 kq a0 x4_1 = some (r1, r2)) ∧ Aside0 (kq ≤ k) ∧ Drawn0 w w')
  case atStart => exact ⟨(1), (by first | rfl | (simp; done) | (simp [*]; done)), H', ⟨Nat.le_refl _⟩, by repeat (first | exact Drawn0.refl _ | apply Drawn0.step)⟩
  case round =>
    clear H'
    obtain ⟨x4_1, rfl, HA, HK1, ⟨m1, rfl⟩⟩ := hrel
    cases gk with
    | zero => exact absurd HA.out (by simp [lex_quoted.l0])
    | succ k1 =>
      have H := HA.out
      clear HA
      simp only [lex_quoted.l0] at H
      by_cases c2 : x4_1 < (a0.size : Int)
      · rw [if_pos c2] at H
        have c2b0 : decide (x4_1 < (a0.size : Int)) = true := decide_eq_true c2
        clear c2
        by_cases c3 : 0 ≤ x4_1
        · rw [if_pos c3] at H
          have c3b0 : decide (0 ≤ x4_1) = true := decide_eq_true c3
          clear c3
          by_cases c5 : 0 < (a0.size : Int)
          · rw [if_pos c5] at H
            have c5b0 : decide (0 < (a0.size : Int)) = true := decide_eq_true c5
            have c5b1 : decide (0 < a0.size) = true := decide_eq_true (by omega)
            clear c5
            by_cases c7 : (bt a0 x4_1) = (bt a0 0)
            · rw [if_pos c7] at H
              have c7b0 : ((bt a0 x4_1) == (bt a0 0)) = true := beq_iff_eq.mpr c7
              have c7b1 : ((bt a0 x4_1) != (bt a0 0)) = false := bne_eq_false_iff_eq.mpr c7
              clear c7
              obtain ⟨ji8, hji8⟩ : ∃ j_ : Int, (wrap64 (x4_1 + 1)) = j_ := ⟨_, rfl⟩
              replace H : (if 0 ≤ (ji8) then (if (ji8) ≤ (a0.size : Int) then (some (a0.extract 0 ((ji8) : Int).toNat, true)) else (none)) else (none)) = some (r1, r2) := by first | (rw [hji8] at H; exact H) | (simp only [hji8] at H ⊢; exact H)
              have hji8w : (IntKind.i64.wrap (x4_1 + 1)) = ji8 := (i64_w _).trans hji8
              by_cases c9 : 0 ≤ (ji8)
              · rw [if_pos c9] at H
                have c9b0 := eq_true c9
                have c9b1 : decide (0 ≤ (ji8)) = true := decide_eq_true c9
                clear c9
                by_cases c10 : (ji8) ≤ (a0.size : Int)
                · rw [if_pos c10] at H
                  have c10b0 := eq_true c10
                  have c10b1 : decide ((ji8) ≤ (a0.size : Int)) = true := decide_eq_true c10
                  clear c10
                  simp only [Option.some.injEq, Prod.mk.injEq] at H
                  obtain ⟨rfl, rfl⟩ := H
                  have p4 : 0 ≤ (x4_1 : Int) := of_decide_eq_true (by first | (with_reducible assumption) | assumption)
                  have q4 : x4_1 < (a0.size : Int) := of_decide_eq_true (by first | (with_reducible assumption) | assumption)
                  have hx4 := bt_at a0 x4_1
                  replace p4 := eq_true p4
                  replace q4 := eq_true q4
                  have p6 : 0 ≤ (0 : Int) := (by omega)
                  have q6 : 0 < a0.size := (by have : (0 : Int) < (a0.size : Int) := of_decide_eq_true (by first | (with_reducible assumption) | assumption); omega)
                  have hx6 : ∀ h : 0 < a0.size, ((a0[0]'h).toNat : Int) = bt a0 0 := bt_at a0 0
                  clear p6
                  have qi6 : (0 < (a0.size : Int)) = True := eq_true (of_decide_eq_true (by first | (with_reducible assumption) | assumption))
                  replace q6 := eq_true q6
                  go_wp2
                  go_ret2
                  exact ⟨by first | rfl | (simp; done) | (simp only [← hji8] <;> (first | rfl | simp)) | (simp [*]; done), by repeat (first | exact Drawn0.refl _ | apply Drawn0.step)⟩
                · rw [if_neg c10] at H
                  exact absurd H (by simp)
              · rw [if_neg c9] at H
                exact absurd H (by simp)
            · rw [if_neg c7] at H
              have c7b0 : ((bt a0 x4_1) == (bt a0 0)) = false := beq_eq_false_iff_ne.mpr c7
              have c7b1 : ((bt a0 x4_1) != (bt a0 0)) = true := bne_iff_ne.mpr c7
              by_cases c11 : (bt a0 x4_1) = 92
              · rw [if_pos c11] at H
                have c11b0 : ((bt a0 x4_1) == 92) = true := beq_iff_eq.mpr c11
                have c11b1 : ((bt a0 x4_1) != 92) = false := bne_eq_false_iff_eq.mpr c11
                clear c11
                by_cases c13 : (bt a0 0) = 96
                · rw [if_pos c13] at H
                  have c13b0 : ((bt a0 0) == 96) = true := beq_iff_eq.mpr c13
                  have c13b1 : ((bt a0 0) != 96) = false := bne_eq_false_iff_eq.mpr c13
                  clear c13
                  have H' := Aside0.mk H
                  clear H
                  have p4 : 0 ≤ (x4_1 : Int) := of_decide_eq_true (by first | (with_reducible assumption) | assumption)
                  have q4 : x4_1 < (a0.size : Int) := of_decide_eq_true (by first | (with_reducible assumption) | assumption)
                  have hx4 := bt_at a0 x4_1
                  replace p4 := eq_true p4
                  replace q4 := eq_true q4
                  have p6 : 0 ≤ (0 : Int) := (by omega)
                  have q6 : 0 < a0.size := (by have : (0 : Int) < (a0.size : Int) := of_decide_eq_true (by first | (with_reducible assumption) | assumption); omega)
                  have hx6 : ∀ h : 0 < a0.size, ((a0[0]'h).toNat : Int) = bt a0 0 := bt_at a0 0
                  clear p6
                  have qi6 : (0 < (a0.size : Int)) = True := eq_true (of_decide_eq_true (by first | (with_reducible assumption) | assumption))
                  replace q6 := eq_true q6
                  have p12 : 0 ≤ (0 : Int) := (by omega)
                  have q12 : 0 < a0.size := (by have : (0 : Int) < (a0.size : Int) := of_decide_eq_true (by first | (with_reducible assumption) | assumption); omega)
                  have hx12 : ∀ h : 0 < a0.size, ((a0[0]'h).toNat : Int) = bt a0 0 := bt_at a0 0
                  clear p12
                  have qi12 : (0 < (a0.size : Int)) = True := eq_true (of_decide_eq_true (by first | (with_reducible assumption) | assumption))
                  replace q12 := eq_true q12
                  go_wp2
                  go_roundg k1
                  case measure => have := HK1.out; omega
                  case rel => exact ⟨(wrap64 (x4_1 + 1)), (by first | rfl | (simp; done) | (simp [*]; done)), H', ⟨by have := HK1.out; omega⟩, by repeat (first | exact Drawn0.refl _ | apply Drawn0.step)⟩
                · rw [if_neg c13] at H
                  have c13b0 : ((bt a0 0) == 96) = false := beq_eq_false_iff_ne.mpr c13
                  have c13b1 : ((bt a0 0) != 96) = true := bne_iff_ne.mpr c13
                  have H' := Aside0.mk H
                  clear H
                  have p4 : 0 ≤ (x4_1 : Int) := of_decide_eq_true (by first | (with_reducible assumption) | assumption)
                  have q4 : x4_1 < (a0.size : Int) := of_decide_eq_true (by first | (with_reducible assumption) | assumption)
                  have hx4 := bt_at a0 x4_1
                  replace p4 := eq_true p4
                  replace q4 := eq_true q4
                  have p6 : 0 ≤ (0 : Int) := (by omega)
                  have q6 : 0 < a0.size := (by have : (0 : Int) < (a0.size : Int) := of_decide_eq_true (by first | (with_reducible assumption) | assumption); omega)
                  have hx6 : ∀ h : 0 < a0.size, ((a0[0]'h).toNat : Int) = bt a0 0 := bt_at a0 0
                  clear p6
                  have qi6 : (0 < (a0.size : Int)) = True := eq_true (of_decide_eq_true (by first | (with_reducible assumption) | assumption))
                  replace q6 := eq_true q6
                  have p12 : 0 ≤ (0 : Int) := (by omega)
                  have q12 : 0 < a0.size := (by have : (0 : Int) < (a0.size : Int) := of_decide_eq_true (by first | (with_reducible assumption) | assumption); omega)
                  have hx12 : ∀ h : 0 < a0.size, ((a0[0]'h).toNat : Int) = bt a0 0 := bt_at a0 0
                  clear p12
                  have qi12 : (0 < (a0.size : Int)) = True := eq_true (of_decide_eq_true (by first | (with_reducible assumption) | assumption))
                  replace q12 := eq_true q12
                  go_wp2
                  go_roundg k1
                  case measure => have := HK1.out; omega
                  case rel => exact ⟨(wrap64 ((wrap64 (x4_1 + 1)) + 1)), (by first | rfl | (simp; done) | (simp [*]; done)), H', ⟨by have := HK1.out; omega⟩, by repeat (first | exact Drawn0.refl _ | apply Drawn0.step)⟩
              · rw [if_neg c11] at H
                have c11b0 : ((bt a0 x4_1) == 92) = false := beq_eq_false_iff_ne.mpr c11
                have c11b1 : ((bt a0 x4_1) != 92) = true := bne_iff_ne.mpr c11
                have H' := Aside0.mk H
                clear H
                have p4 : 0 ≤ (x4_1 : Int) := of_decide_eq_true (by first | (with_reducible assumption) | assumption)
                have q4 : x4_1 < (a0.size : Int) := of_decide_eq_true (by first | (with_reducible assumption) | assumption)
                have hx4 := bt_at a0 x4_1
                replace p4 := eq_true p4
                replace q4 := eq_true q4
                have p6 : 0 ≤ (0 : Int) := (by omega)
                have q6 : 0 < a0.size := (by have : (0 : Int) < (a0.size : Int) := of_decide_eq_true (by first | (with_reducible assumption) | assumption); omega)
                have hx6 : ∀ h : 0 < a0.size, ((a0[0]'h).toNat : Int) = bt a0 0 := bt_at a0 0
                clear p6
                have qi6 : (0 < (a0.size : Int)) = True := eq_true (of_decide_eq_true (by first | (with_reducible assumption) | assumption))
                replace q6 := eq_true q6
                go_wp2
                go_roundg k1
                case measure => have := HK1.out; omega
                case rel => exact ⟨(wrap64 (x4_1 + 1)), (by first | rfl | (simp; done) | (simp [*]; done)), H', ⟨by have := HK1.out; omega⟩, by repeat (first | exact Drawn0.refl _ | apply Drawn0.step)⟩
          · rw [if_neg c5] at H
            exact absurd H (by simp)
        · rw [if_neg c3] at H
          exact absurd H (by simp)
      · rw [if_neg c2] at H
        have c2b0 : decide (x4_1 < (a0.size : Int)) = false := decide_eq_false c2
        clear c2
        simp only [Option.some.injEq, Prod.mk.injEq] at H
        obtain ⟨rfl, rfl⟩ := H
        go_wp2
        go_ret2
        exact ⟨by first | rfl | (simp; done) | (simp [*]; done), by repeat (first | exact Drawn0.refl _ | apply Drawn0.step)⟩
end Go.Proofs.YtioofhilohmfbaaGreatDoor.P
end
section
set_option linter.unusedVariables false
set_option linter.unusedSimpArgs false
namespace Go.Proofs.YtioofhilohmfbaaGreatDoor
open Go Go.RowKit Go.Lib Go.Proofs.YtioofhilohmfbaaGreatDoorW.PrintWords Go.Proofs.YtioofhilohmfbaaGreatDoorW.PrintLast Go.Proofs.YtioofhilohmfbaaGreatDoorW.PrintMore Go.Proofs.YtioofhilohmfbaaGreatDoor.P
def P.lex_first.f (a0 : ByteArray) : Option (Int × ByteArray × Int × Int × Bool) := if 0 < a0.size ∧ a0.size ≤ 4096 then some ((firstP a0.data.toList).1, (firstP a0.data.toList).2.1, 0, ((firstP a0.data.toList).2.2.1 : Int), (firstP a0.data.toList).2.2.2) else none
theorem letter_all : ∀ c : Fin 256, P.lex_isLetter.f (c.val : Int) = some (wordB (UInt8.ofNat c.val)) := by decide +kernel
theorem digit_all : ∀ c : Fin 256, P.lex_isDigit.f (c.val : Int) = some (digL (UInt8.ofNat c.val)) := by decide +kernel
theorem letter_f (c : UInt8) : P.lex_isLetter.f (c.toNat : Int) = some (wordB c) := by
  have := letter_all ⟨c.toNat, c.toNat_lt⟩
  simpa using this
theorem digit_f (c : UInt8) : P.lex_isDigit.f (c.toNat : Int) = some (digL c) := by
  have := digit_all ⟨c.toNat, c.toNat_lt⟩
  simpa using this
theorem bt_drop (s : ByteArray) (i : Nat) (h : i < s.size) : ∃ c t, s.data.toList.drop i = c :: t ∧ bt s (i : Int) = c.toNat ∧ s.data.toList.drop (i + 1) = t := by
  have hl : s.data.toList.length = s.size := (Lib.size_eq s).symm
  refine ⟨s.data.toList[i]'(by omega), s.data.toList.drop (i + 1), List.drop_eq_getElem_cons (by omega), ?_, rfl⟩
  have h' : ((i : Int)).toNat < s.size := by rw [Int.toNat_natCast]; exact h
  rw [← bt_at s (i : Int) h']
  rfl
theorem bt_list (s : ByteArray) (i : Nat) (c : UInt8) (h : s.data.toList[i]? = some c) : bt s (i : Int) = (c.toNat : Int) := by
  have hl : i < s.data.toList.length := (List.getElem?_eq_some_iff.1 h).1
  obtain ⟨c', t', e, hb, _⟩ := bt_drop s i (by rw [Lib.size_eq]; exact hl)
  rw [List.drop_eq_getElem_cons hl] at e
  injection e with e1 e2
  have h2 := (List.getElem?_eq_some_iff.1 h).2
  rw [hb, ← e1, h2]
theorem w64a (a : Nat) (h : a ≤ 5000) : wrap64 ((a : Int) + 1) = ((a + 1 : Nat) : Int) := by unfold wrap64; omega
theorem u8_int {a b : UInt8} (h : ((a.toNat : Int) = (b.toNat : Int))) : a = b := UInt8.toNat_inj.1 (by omega)
theorem quoted_l0 (s : ByteArray) (hs : s.size ≤ 4096) (q : UInt8) (t : List UInt8) (he : s.data.toList = q :: t) (hq : q = 34 ∨ q = 96) : ∀ (k i : Nat), 1 ≤ i → i ≤ s.size + 1 → s.size + 1 - i < k →
    P.lex_quoted.l0 k s (i : Int) = match qEndC q (s.data.toList.drop i) with | none => some ((⟨#[]⟩ : ByteArray), false) | some j => some (s.extract 0 (i + j), true)
  | 0, i, h1, h2, h3 => by omega
  | k + 1, i, h1, h2, h3 => by
    have h92 : q ≠ 92 := by rcases hq with rfl | rfl <;> decide
    by_cases hi : i < s.size
    · obtain ⟨c, hc⟩ : ∃ c, s.data.toList[i]? = some c := ⟨_, List.getElem?_eq_getElem (by rw [← Lib.size_eq]; exact hi)⟩
      have hd : s.data.toList.drop i = c :: s.data.toList.drop (i + 1) := by
        obtain ⟨h, e⟩ := List.getElem?_eq_some_iff.1 hc
        rw [← e, List.drop_eq_getElem_cons h]
      have hb := bt_list s i c hc
      have hb0 : bt s 0 = (q.toNat : Int) := bt_list s 0 q (by rw [he]; rfl)
      have g1 : (i : Int) < (s.size : Int) := by omega
      have g2 : (0 : Int) ≤ (i : Int) := by omega
      have g3 : (0 : Int) < (s.size : Int) := by omega
      have g4 : (0 : Int) ≤ ((i + 1 : Nat) : Int) := by omega
      have g5 : ((i + 1 : Nat) : Int) ≤ (s.size : Int) := by omega
      have g6 : i ≤ 5000 ∧ i + 1 ≤ 5000 := by omega
      have hI1 := quoted_l0 s hs q t he hq k (i + 1) (by omega) (by omega) (by omega)
      have hI2 := quoted_l0 s hs q t he hq k (i + 1 + 1) (by omega) (by omega) (by omega)
      have hw1 := w64a i g6.1
      have hw2 := w64a (i + 1) g6.2
      rw [P.lex_quoted.l0, hb, hb0, hd]
      refine (if_pos g1).trans ((if_pos g2).trans ((if_pos g3).trans ?_))
      rw [hw1, hw2]
      by_cases hcq : c = q
      · subst hcq
        refine (if_pos rfl).trans ((if_pos g4).trans ((if_pos g5).trans ?_))
        have hqe : qEndC c (c :: s.data.toList.drop (i + 1)) = some 1 := by
          cases s.data.toList.drop (i + 1) with
          | nil => rw [qEndC, if_pos rfl]
          | cons d u => rw [qEndC, if_pos rfl]
        rw [hqe, Int.toNat_natCast]
      · refine (if_neg (fun h => hcq (u8_int h))).trans ?_
        by_cases h2 : c = 92
        · subst h2
          refine (if_pos rfl).trans ?_
          rcases hq with rfl | rfl
          · refine (if_neg (by decide)).trans ?_
            rw [hI2, qEndC_slash 34 _ (by decide) (by decide), List.drop_drop]
            cases qEndC 34 (s.data.toList.drop (i + 1 + 1)) with
            | none => rfl
            | some j => simp only [Option.map_some]; congr 3; omega
          · refine (if_pos rfl).trans ?_
            rw [hI1, qEndC_cons 96 92 _ (by decide), if_neg hcq]
            cases qEndC 96 (s.data.toList.drop (i + 1)) with
            | none => rfl
            | some j => simp only [Option.map_some]; congr 3; omega
        · refine (if_neg (fun h => h2 (u8_int (b := 92) h))).trans ?_
          rw [hI1, qEndC_cons q c _ (fun h => h2 h.1), if_neg hcq]
          cases qEndC q (s.data.toList.drop (i + 1)) with
          | none => rfl
          | some j => simp only [Option.map_some]; congr 3; omega
    · have g1 : ¬ ((i : Int) < (s.size : Int)) := by omega
      rw [P.lex_quoted.l0, List.drop_eq_nil_of_le (by rw [← Lib.size_eq]; omega)]
      exact if_neg g1
theorem quoted_f (s : ByteArray) (hs : s.size ≤ 4096) (q : UInt8) (t : List UInt8) (he : s.data.toList = q :: t) (hq : q = 34 ∨ q = 96) : P.lex_quoted.f 5000 s = match qEndC q t with | none => some ((⟨#[]⟩ : ByteArray), false) | some j => some (s.extract 0 (j + 1), true) := by
  have h := quoted_l0 s hs q t he hq 5000 1 (Nat.le_refl _) (by omega) (by omega)
  rw [he, List.drop_succ_cons, List.drop_zero] at h
  unfold P.lex_quoted.f
  rw [show (1 : Int) = ((1 : Nat) : Int) from rfl, h]
  cases qEndC q t with
  | none => rfl
  | some j => simp only; rw [Nat.add_comm]
end Go.Proofs.YtioofhilohmfbaaGreatDoor
end
section
set_option linter.unusedVariables false
set_option linter.unusedSimpArgs false
namespace Go.Proofs.YtioofhilohmfbaaGreatDoor
open Go Go.RowKit Go.Lib Go.Proofs.YtioofhilohmfbaaGreatDoorW.PrintWords Go.Proofs.YtioofhilohmfbaaGreatDoorW.PrintLast Go.Proofs.YtioofhilohmfbaaGreatDoorW.PrintMore Go.Proofs.YtioofhilohmfbaaGreatDoor.P
/-- The result's place, as1 it was made. -/
def TB (w W : World) : Prop := W.heap[w.heap.size]? = some (.cells #[.int .i64 0, .string ⟨#[]⟩, .int .i64 0] 32 (0, 0))
theorem TB.new1 (w : World) : TB w (w.alloc (.cells #[.int .i64 0, .string ⟨#[]⟩, .int .i64 0] 32)) := blk_new w _
theorem TB.below {w W W' : World} (h : TB w W) (hb : Below W.heap.size W W') : TB w W' := blk_below h hb
theorem TB.cells {w W : World} (h : TB w W) : W.cell? ⟨w.heap.size, 0, none⟩ = some (.int .i64 0) ∧ W.cell? ⟨w.heap.size, 1, none⟩ = some (.string ⟨#[]⟩) ∧ W.cell? ⟨w.heap.size, 2, none⟩ = some (.int .i64 0) ∧ W.frozen? ⟨w.heap.size, 0, none⟩ = false ∧ W.frozen? ⟨w.heap.size, 1, none⟩ = false ∧ W.frozen? ⟨w.heap.size, 2, none⟩ = false :=
  ⟨blk_cell h 0, blk_cell h 1, blk_cell h 2, blk_frozen h 0, blk_frozen h 1, blk_frozen h 2⟩
theorem TB.put {w W : World} (h : TB w W) (v0 v1 v2 : Value) : (((W.setCell ⟨w.heap.size, 0, none⟩ v0).setCell ⟨w.heap.size, 1, none⟩ v1).setCell ⟨w.heap.size, 2, none⟩ v2).heap[w.heap.size]? = some (.cells #[v0, v1, v2] 32) :=
  blk_put (blk_put (blk_put h 0 v0 (cs' := #[v0, .string ⟨#[]⟩, .int .i64 0]) rfl) 1 v1 (cs' := #[v0, v1, .int .i64 0]) rfl) 2 v2 rfl
theorem below_put3 {w W : World} (h : Below w.heap.size w W) (v0 v1 v2 : Value) : Below w.heap.size w (((W.setCell ⟨w.heap.size, 0, none⟩ v0).setCell ⟨w.heap.size, 1, none⟩ v1).setCell ⟨w.heap.size, 2, none⟩ v2) :=
  below_set (below_set (below_set h (Nat.le_refl _)) (Nat.le_refl _)) (Nat.le_refl _)
/-- A token, how many bytes it has, whether it is one. -/
def FirstPost (w : World) (v : Int × ByteArray × Nat × Bool) (e : Ending) (w' : World) : Prop := e = .returned (.tuple #[.agg #[.int .i64 v.1, .string v.2.1, .int .i64 0], .int .i64 (v.2.2.1 : Int), .bool v.2.2.2]) ∧ Below w.heap.size w w'
set_option maxRecDepth 100000 in
set_option maxHeartbeats 4000000 in
theorem first_word (s : ByteArray) (c : UInt8) (t : List UInt8) (he : s.data.toList = c :: t) (hs : s.size ≤ 4096) (hw : wordB c = true) (w : World) : Calls Tryz.prog 21 #[.string s] w (FirstPost w (1, s.extract 0 (runN partB s.data.toList), runN partB s.data.toList, true)) := by
  obtain ⟨n, hn⟩ : ∃ n, runN partB s.data.toList = n := ⟨_, rfl⟩
  have hrun : P.lex_runPart.f s = some (n : Int) := by unfold P.lex_runPart.f; rw [if_pos (by omega), hn]
  have hle : n ≤ s.size := by rw [← hn, Lib.size_eq]; exact runN_le _ _
  rw [hn]
  have hf := letter_f c
  rw [hw] at hf
  have hsz : 0 < s.size := by rw [Lib.size_eq, he]; simp
  have hb0 : ∀ h' : 0 < s.size, s[0]'h' = c := fun h' => by
    have : s.data.toList[0]? = some c := by rw [he]; rfl
    rw [List.getElem?_eq_getElem (by rw [← Lib.size_eq]; exact h')] at this
    exact Option.some.inj this
  have q0 : (0 < (s.size : Int)) = True := eq_true (by omega)
  have q1 : (0 < s.size) = True := eq_true hsz
  have cb2 : (0 ≤ (n : Int)) = True := eq_true (by omega)
  have cb3 : ((n : Int) ≤ (s.size : Int)) = True := eq_true (by omega)
  have HL := Aside0.mk hf
  have HR := Aside0.mk hrun
  clear he hs hw hn hrun hle hf hsz
  go_enter Tryz.func21, Tryz.ntmps21
  go_wp2_with (first
    | (go_at_call 45; (try rw [hb0]); (with_reducible refine (P.lex_isLetter.calls _ true _ HL.out).mono ?_); rintro e w1 ⟨rfl, hd0⟩; have T1 := Aside0.mk (TB.below (TB.new1 w) (drawn_below hd0)); have H1 := Aside0.mk (below_step (below_alloc (Below.refl w.heap.size w) _) (drawn_below hd0)); clear hd0; obtain ⟨hc0, hc1, hc2, hf0, hf1, hf2⟩ := T1.out.cells)
    | (go_at_call 19; (with_reducible refine (P.lex_runPart.calls _ (n : Int) _ HR.out).mono ?_); rintro e w2 ⟨rfl, hb⟩; have T2 := Aside0.mk (TB.below T1.out hb); have H2 := Aside0.mk (below_step H1.out hb); clear hb hc0 hc1 hc2 hf0 hf1 hf2; obtain ⟨hc0, hc1, hc2, hf0, hf1, hf2⟩ := T2.out.cells))
  refine bodyPost_ret (results_ctt rfl _ _ w.heap.size 32 #[.int .i64 1, .string (s.extract 0 n), .int .i64 0] (0, 0) _ rfl (TB.put T2.out _ _ _) Tryz.underlying32 rfl (by kernel_rfl)) rfl ?_
  exact ⟨rfl, below_put3 H2.out _ _ _⟩
set_option maxRecDepth 100000 in
set_option maxHeartbeats 4000000 in
theorem first_num (s : ByteArray) (c : UInt8) (t : List UInt8) (he : s.data.toList = c :: t) (hs : s.size ≤ 4096) (hw : wordB c = false) (hd : digL c = true) (w : World) (hG : Aside0 (G w)) : Calls Tryz.prog 21 #[.string s] w (FirstPost w (kindP (s.extract 0 (runN numB s.data.toList)), s.extract 0 (runN numB s.data.toList), runN numB s.data.toList, kindP (s.extract 0 (runN numB s.data.toList)) != 0)) := by
  obtain ⟨n, hn⟩ : ∃ n, runN numB s.data.toList = n := ⟨_, rfl⟩
  have hrun : P.lex_runFirst.f s = some (n : Int) := by unfold P.lex_runFirst.f; rw [if_pos (by omega), hn]
  have hle : n ≤ s.size := by rw [← hn, Lib.size_eq]; exact runN_le _ _
  have hall := runN_in numB s.data.toList
  rw [hn] at hall ⊢
  have hx : (s.extract 0 n).data.toList = s.data.toList.take n := by
    rw [ByteArray.data_extract, Array.toList_extract, List.extract_eq_take_drop]
    simp
  have HM := Aside0.mk (fun W (hW : Below w.heap.size w W) => measured_calls (s.extract 0 n) (by rw [ByteArray.size_extract]; omega) (by rw [hx]; exact List.all_eq_true.2 fun d hd => decide_eq_true (num_small d (hall d hd)).1) (by
    cases hb : Lib.hasPrefix (s.extract 0 n).data.toList [45] with
    | false => rfl
    | true =>
      obtain ⟨r, hr⟩ := (pre_iff _ _).1 hb
      rw [hx] at hr
      exact absurd rfl (num_small 45 (hall 45 (by rw [← hr]; simp))).2.1) W (hG.out.at hW))
  have hf := letter_f c
  rw [hw] at hf
  have hg := digit_f c
  rw [hd] at hg
  have hsz : 0 < s.size := by rw [Lib.size_eq, he]; simp
  have hb0 : ∀ h' : 0 < s.size, s[0]'h' = c := fun h' => by
    have : s.data.toList[0]? = some c := by rw [he]; rfl
    rw [List.getElem?_eq_getElem (by rw [← Lib.size_eq]; exact h')] at this
    exact Option.some.inj this
  have q0 : (0 < (s.size : Int)) = True := eq_true (by omega)
  have q1 : (0 < s.size) = True := eq_true hsz
  have cb2 : (0 ≤ (n : Int)) = True := eq_true (by omega)
  have cb3 : ((n : Int) ≤ (s.size : Int)) = True := eq_true (by omega)
  have HL := Aside0.mk hf
  have HD := Aside0.mk hg
  have HR := Aside0.mk hrun
  clear he hs hw hd hn hrun hle hf hg hsz hall hx hG
  go_enter Tryz.func21, Tryz.ntmps21
  go_wp2_with (first
    | (go_at_call 45; (try rw [hb0]); (with_reducible refine (P.lex_isLetter.calls _ false _ HL.out).mono ?_); rintro e w1 ⟨rfl, hd0⟩; have T1 := Aside0.mk (TB.below (TB.new1 w) (drawn_below hd0)); have H1 := Aside0.mk (below_step (below_alloc (Below.refl w.heap.size w) _) (drawn_below hd0)); clear hd0; obtain ⟨hc0, hc1, hc2, hf0, hf1, hf2⟩ := T1.out.cells)
    | (go_at_call 47; (try rw [hb0]); (with_reducible refine (P.lex_isDigit.calls _ true _ HD.out).mono ?_); rintro e w2 ⟨rfl, hd0⟩; have T2 := Aside0.mk (TB.below T1.out (drawn_below hd0)); have H2 := Aside0.mk (below_step H1.out (drawn_below hd0)); clear hd0 hc0 hc1 hc2 hf0 hf1 hf2; obtain ⟨hc0, hc1, hc2, hf0, hf1, hf2⟩ := T2.out.cells)
    | (go_at_call 19; (with_reducible refine (P.lex_runFirst.calls _ (n : Int) _ HR.out).mono ?_); rintro e w3 ⟨rfl, hb⟩; have T3 := Aside0.mk (TB.below T2.out hb); have H3 := Aside0.mk (below_step H2.out hb); clear hb hc0 hc1 hc2 hf0 hf1 hf2; obtain ⟨hc0, hc1, hc2, hf0, hf1, hf2⟩ := T3.out.cells)
    | (go_at_call 49; (with_reducible refine (HM.out _ H3.out).mono ?_); rintro e w4 ⟨rfl, hb⟩; have T4 := Aside0.mk (TB.below T3.out hb); have H4 := Aside0.mk (below_step H3.out hb); clear hb hc0 hc1 hc2 hf0 hf1 hf2; obtain ⟨hc0, hc1, hc2, hf0, hf1, hf2⟩ := T4.out.cells))
  refine bodyPost_ret (results_ctt rfl _ _ w.heap.size 32 #[.int .i64 (kindP (s.extract 0 n)), .string (s.extract 0 n), .int .i64 0] (0, 0) _ rfl (TB.put T4.out _ _ _) Tryz.underlying32 rfl (by kernel_rfl)) rfl ?_
  exact ⟨rfl, below_put3 H4.out _ _ _⟩
set_option maxRecDepth 100000 in
set_option maxHeartbeats 4000000 in
theorem first_text (s : ByteArray) (c : UInt8) (t : List UInt8) (he : s.data.toList = c :: t) (hs : s.size ≤ 4096) (hw : wordB c = false) (hd : digL c = false) (hq : c = 34 ∨ c = 96) (own x : ByteArray) (ok : Bool) (er : Int) (hown : P.lex_quoted.f 5000 s = some (own, ok)) (hun : P.quote_Unquote.f own = some (x, er)) (hoz : own.size ≤ 4096) (w : World) (hG : Aside0 (G w)) : Calls Tryz.prog 21 #[.string s] w (FirstPost w (2, x, own.size, ok && er == 0)) := by
  have hf := letter_f c
  rw [hw] at hf
  have hg := digit_f c
  rw [hd] at hg
  have hsz : 0 < s.size := by rw [Lib.size_eq, he]; simp
  have hb0 : ∀ h' : 0 < s.size, s[0]'h' = c := fun h' => by
    have : s.data.toList[0]? = some c := by rw [he]; rfl
    rw [List.getElem?_eq_getElem (by rw [← Lib.size_eq]; exact h')] at this
    exact Option.some.inj this
  have q0 : (0 < (s.size : Int)) = True := eq_true (by omega)
  have q1 : (0 < s.size) = True := eq_true hsz
  have HL := Aside0.mk hf
  have HD := Aside0.mk hg
  have HO := Aside0.mk hown
  have HU := Aside0.mk hun
  have HQ : Aside0 ((c.toNat : Int) = 34 ∨ (c.toNat : Int) = 96) := ⟨by rcases hq with rfl | rfl; exact .inl rfl; exact .inr rfl⟩
  clear he hs hw hd hown hun hf hg hsz hoz hq
  obtain ⟨ci, hci⟩ : ∃ ci : Int, (c.toNat : Int) = ci := ⟨_, rfl⟩
  rw [hci] at HQ HL HD
  have hb1 : ∀ h' : 0 < s.size, ((s[0]'h').toNat : Int) = ci := fun h' => by rw [hb0 h']; exact hci
  have HB1 := Aside0.mk hb1
  clear hb0 hci hb1
  have hcq : (ci == 34) = true ∨ ((ci == 34) = false ∧ (ci == 96) = true) := by
    rcases HQ.out with h | h
    · exact .inl (beq_iff_eq.2 h)
    · exact .inr ⟨by rw [h]; rfl, beq_iff_eq.2 h⟩
  rcases hcq with hc1 | ⟨hc1, hc2⟩
  all_goals cases ok
  all_goals go_enter Tryz.func21, Tryz.ntmps21
  all_goals go_wp2_with (first
    | (go_at_call 45; rw [HB1.out]; (with_reducible refine (P.lex_isLetter.calls _ false _ HL.out).mono ?_); rintro e w1 ⟨rfl, hd0⟩; have T1 := Aside0.mk (TB.below (TB.new1 w) (drawn_below hd0)); have H1 := Aside0.mk (below_step (below_alloc (Below.refl w.heap.size w) _) (drawn_below hd0)); clear hd0; obtain ⟨hc0, hc1, hc2, hf0, hf1, hf2⟩ := T1.out.cells)
    | (go_at_call 47; skip; (with_reducible refine (P.lex_isDigit.calls _ false _ HD.out).mono ?_); rintro e w2 ⟨rfl, hd0⟩; have T2 := Aside0.mk (TB.below T1.out (drawn_below hd0)); have H2 := Aside0.mk (below_step H1.out (drawn_below hd0)); clear hd0 hc0 hc1 hc2 hf0 hf1 hf2; obtain ⟨hc0, hc1, hc2, hf0, hf1, hf2⟩ := T2.out.cells)
    | (go_at_call 50; (with_reducible refine (P.lex_quoted.calls 5000 _ _ _ _ HO.out).mono ?_); rintro e w3 ⟨rfl, hd0⟩; have hb := drawn_below hd0; clear hd0; have T3 := Aside0.mk (TB.below T2.out hb); have H3 := Aside0.mk (below_step H2.out hb); clear hb hc0 hc1 hc2 hf0 hf1 hf2; obtain ⟨hc0, hc1, hc2, hf0, hf1, hf2⟩ := T3.out.cells)
    | (go_at_call 14; (with_reducible refine (P.quote_Unquote.calls _ _ _ _ (hG.out.at H3.out) HU.out).mono ?_); rintro e w4 ⟨rfl, hb⟩; have T4 := Aside0.mk (TB.below T3.out hb); have H4 := Aside0.mk (below_step H3.out hb); clear hb hc0 hc1 hc2 hf0 hf1 hf2; obtain ⟨hc0, hc1, hc2, hf0, hf1, hf2⟩ := T4.out.cells))
  all_goals refine bodyPost_ret (results_ctt rfl _ _ w.heap.size 32 #[.int .i64 2, .string x, .int .i64 0] (0, 0) _ rfl (TB.put T4.out _ _ _) Tryz.underlying32 rfl (by kernel_rfl)) rfl ?_
  all_goals exact ⟨rfl, below_put3 H4.out _ _ _⟩
end Go.Proofs.YtioofhilohmfbaaGreatDoor
end
section
set_option linter.unusedVariables false
set_option linter.unusedSimpArgs false
namespace Go.Proofs.YtioofhilohmfbaaGreatDoor
open Go Go.RowKit Go.Lib Go.Proofs.YtioofhilohmfbaaGreatDoorW.PrintWords Go.Proofs.YtioofhilohmfbaaGreatDoorW.PrintLast Go.Proofs.YtioofhilohmfbaaGreatDoorW.PrintMore Go.Proofs.YtioofhilohmfbaaGreatDoor.P
theorem rd_sign (i : Nat) (y : ByteArray) (h : signsL[i]? = some y) (j : Int) (hj : j = (i : Int)) : rdOf ByteArray.empty signsL j = y := by
  subst hj
  unfold rdOf
  rw [Int.toNat_natCast, List.getD_eq_getElem?_getD, h]
  rfl
theorem sign_hit {l : List UInt8} {i : Nat} {y : ByteArray} (h : signsL[i]? = some y) (hp : Lib.hasPrefix l y.data.toList = true) (hn : ∀ k z, k < i → signsL[k]? = some z → Lib.hasPrefix l z.data.toList = false) : signP l = some y := by
  unfold signP
  obtain ⟨hlt, e⟩ := List.getElem?_eq_some_iff.1 h
  refine List.find?_eq_some_iff_getElem.2 ⟨hp, i, hlt, e, fun k hk => ?_⟩
  rw [hn k _ hk (List.getElem?_eq_getElem (by omega))]
  rfl
theorem sign_no {l : List UInt8} (hn : ∀ k z, k < 23 → signsL[k]? = some z → Lib.hasPrefix l z.data.toList = false) : signP l = none := by
  unfold signP
  refine List.find?_eq_none.2 fun x hx => ?_
  obtain ⟨k, hk, e⟩ := List.mem_iff_getElem.1 hx
  rw [hn k x hk (by rw [List.getElem?_eq_getElem hk, e])]
  exact Bool.false_ne_true
/-- Of the signs. -/
def signV (l : List UInt8) : Int × ByteArray × Nat × Bool := match signP l with
  | none => (0, ⟨#[]⟩, 0, false)
  | some x => (6, x, x.size, true)
set_option maxRecDepth 100000 in
set_option maxHeartbeats 4000000 in
theorem first_sign (s : ByteArray) (c : UInt8) (t : List UInt8) (he : s.data.toList = c :: t) (hs : s.size ≤ 4096) (hw : wordB c = false) (hd : digL c = false) (hq : ¬ (c = 34 ∨ c = 96)) (w : World) (hG : Aside0 (G w)) : Calls Tryz.prog 21 #[.string s] w (FirstPost w (signV s.data.toList)) := by
  have hf := letter_f c
  rw [hw] at hf
  have hg := digit_f c
  rw [hd] at hg
  have hsz : 0 < s.size := by rw [Lib.size_eq, he]; simp
  have hb0 : ∀ h' : 0 < s.size, s[0]'h' = c := fun h' => by
    have : s.data.toList[0]? = some c := by rw [he]; rfl
    rw [List.getElem?_eq_getElem (by rw [← Lib.size_eq]; exact h')] at this
    exact Option.some.inj this
  have q1 : (0 < s.size) = True := eq_true hsz
  have q0 : (0 < (s.size : Int)) = True := eq_true (by omega)
  have q1 : (0 < s.size) = True := eq_true hsz
  have HL := Aside0.mk hf
  have HD := Aside0.mk hg
  have hq1 : ¬ ((c.toNat : Int) = 34) := fun h => hq (.inl (u8_int (b := 34) h))
  have hq2 : ¬ ((c.toNat : Int) = 96) := fun h => hq (.inr (u8_int (b := 96) h))
  have hqb1 : ((c.toNat : Int) == 34) = false := beq_eq_false_iff_ne.2 hq1
  have hqb2 : ((c.toNat : Int) == 96) = false := beq_eq_false_iff_ne.2 hq2
  clear he hs hw hd hf hg hsz hq hq1 hq2
  obtain ⟨ci, hci⟩ : ∃ ci : Int, (c.toNat : Int) = ci := ⟨_, rfl⟩
  rw [hci] at hqb1 hqb2 HL HD
  have hb1 : ∀ h' : 0 < s.size, ((s[0]'h').toNat : Int) = ci := fun h' => by rw [hb0 h']; exact hci
  have HB1 := Aside0.mk hb1
  clear hb0 hci hb1
  obtain ⟨ad, cp, hgc, hcap, hC⟩ := hG.out.signs
  have HGC := Aside0.mk (fun W (hW : Below w.heap.size w W) => cell_below hW hgc)
  have HC := Aside0.mk (fun W (hW : Below w.heap.size w W) => Kd.C_below hC hW)
  clear hgc hcap hC
  go_enter Tryz.func21, Tryz.ntmps21
  go_wp2_with (first
    | (go_at_call 45; rw [HB1.out]; (with_reducible refine (P.lex_isLetter.calls _ false _ HL.out).mono ?_); rintro e w1 ⟨rfl, hd0⟩; have T1 := Aside0.mk (TB.below (TB.new1 w) (drawn_below hd0)); have H1 := Aside0.mk (below_step (below_alloc (Below.refl w.heap.size w) _) (drawn_below hd0)); clear hd0)
    | (go_at_call 47; (with_reducible refine (P.lex_isDigit.calls _ false _ HD.out).mono ?_); rintro e w2 ⟨rfl, hd0⟩; have T2 := Aside0.mk (TB.below T1.out (drawn_below hd0)); have H2 := Aside0.mk (below_step H1.out (drawn_below hd0)); clear hd0; have hgc := HGC.out _ H2.out))
  go_loopg [73] 24 (fun kq v73 wr => ∃ (j : Int), v73 = .int .i64 j ∧ Aside0 (∃ i : Nat, j = (i : Int) ∧ i ≤ 23 ∧ 23 < kq + i ∧ ∀ k z, k < i → signsL[k]? = some z → Lib.hasPrefix s.data.toList z.data.toList = false) ∧ Aside0 (TB w wr) ∧ Aside0 (Below w.heap.size w wr))
  case atStart => exact ⟨0, rfl, ⟨0, rfl, Nat.zero_le _, by omega, fun k z hk => absurd hk (Nat.not_lt_zero _)⟩, T2, H2⟩
  case round =>
    obtain ⟨j, rfl, ⟨i, hij, hi, hk, hN⟩, TR, HR⟩ := hrel
    obtain ⟨kq, rfl⟩ : ∃ kq, gk = kq + 1 := ⟨gk - 1, by omega⟩
    obtain ⟨hc0, hc1, hc2, hf0, hf1, hf2⟩ := TR.out.cells
    have TRA := TR
    have HRA := HR
    have HN := Aside0.mk hN
    have HJ : Aside0 (j = (i : Int) ∧ i ≤ 23 ∧ 23 < kq + 1 + i) := ⟨hij, hi, hk⟩
    by_cases hlt : i < 23
    · obtain ⟨y, hy⟩ : ∃ y, signsL[i]? = some y := ⟨_, List.getElem?_eq_getElem (by simpa [signsL] using hlt)⟩
      have HY := Aside0.mk hy
      have HLT := Aside0.mk hlt
      have hlen : signsL.length = 23 := rfl
      have hg0 : decide (j < (signsL.length : Int)) = true := decide_eq_true (by omega)
      have p4 : 0 ≤ j := by omega
      have q4 : j < (signsL.length : Int) := by omega
      obtain ⟨ad4, e4, hx4⟩ := Kd.at_string (HC.out _ HR.out) j p4 q4
      cases e4
      rw [rd_sign i y hy j hij] at hx4
      replace p4 := eq_true p4
      replace q4 := eq_true q4
      clear hN hij hi hk hlt hy hlen TR HR
      cases hp : Lib.hasPrefix s.data.toList y.data.toList with
      | true =>
        have HP : Aside0 (P.strings_HasPrefix.f s y = some true) := ⟨by unfold P.strings_HasPrefix.f; rw [hp]⟩
        have HV : Aside0 (signV s.data.toList = (6, y, y.size, true)) := ⟨by unfold signV; rw [sign_hit HY.out hp HN.out]⟩
        clear hp
        go_wp2_with (go_at_call 40; (with_reducible refine (P.strings_HasPrefix.calls _ _ true _ HP.out).mono ?_); rintro e w3 ⟨rfl, hb⟩; have T3 := Aside0.mk (TB.below TRA.out hb); have H3 := Aside0.mk (below_step HRA.out hb); clear hb hc0 hc1 hc2 hf0 hf1 hf2; obtain ⟨hc0, hc1, hc2, hf0, hf1, hf2⟩ := T3.out.cells)
        refine bodyPost_ret (results_ctt rfl _ _ w.heap.size 32 #[.int .i64 6, .string y, .int .i64 0] (0, 0) _ rfl (TB.put T3.out _ _ _) Tryz.underlying32 rfl (by kernel_rfl)) rfl ?_
        rw [HV.out]
        exact ⟨rfl, below_put3 H3.out _ _ _⟩
      | false =>
        have HP : Aside0 (P.strings_HasPrefix.f s y = some false) := ⟨by unfold P.strings_HasPrefix.f; rw [hp]⟩
        have HPF := Aside0.mk hp
        clear hp
        go_wp2_with (go_at_call 40; (with_reducible refine (P.strings_HasPrefix.calls _ _ false _ HP.out).mono ?_); rintro e w3 ⟨rfl, hb⟩; have T3 := Aside0.mk (TB.below TRA.out hb); have H3 := Aside0.mk (below_step HRA.out hb); clear hb)
        go_roundg kq
        all_goals first | exact Nat.le_refl _ | (have := HJ.out; omega) | exact ⟨wrap64 (j + 1), rfl, ⟨i + 1, by have := HJ.out; unfold wrap64; omega, by have := HLT.out; omega, by have := HJ.out; omega, fun k z hk hz => (Nat.lt_succ_iff_lt_or_eq.1 hk).elim (fun h => HN.out k z h hz) (fun h => by rw [h, HY.out] at hz; cases hz; exact HPF.out)⟩, T3, H3⟩
    · have hlen : signsL.length = 23 := rfl
      have hg0 : decide (j < (signsL.length : Int)) = false := decide_eq_false (by omega)
      have hi23 : i = 23 := by omega
      subst hi23
      have HV : Aside0 (signV s.data.toList = (0, ⟨#[]⟩, 0, false)) := ⟨by unfold signV; rw [sign_no HN.out]⟩
      clear TR HR hN hij hi hk hlt hlen
      go_wp2
      refine bodyPost_ret (results_ctt rfl _ _ w.heap.size 32 #[.int .i64 0, .string ⟨#[]⟩, .int .i64 0] (0, 0) _ rfl (TB.put TRA.out _ _ _) Tryz.underlying32 rfl (by kernel_rfl)) rfl ?_
      rw [HV.out]
      exact ⟨rfl, below_put3 HRA.out _ _ _⟩
theorem take_ext (s : ByteArray) (n : Nat) : s.extract 0 n = mkB (s.data.toList.take n) := by
  refine ByteArray.ext (Array.toList_inj.1 ?_)
  rw [ByteArray.data_extract, Array.toList_extract, List.extract_eq_take_drop]
  simp
theorem un2_eq (v : Option (List UInt8)) : P.unq2 v = (v.elim ⟨#[]⟩ mkB, if v.isSome then 0 else 40) := by cases v <;> rfl
theorem first_calls (s : ByteArray) (h0 : 0 < s.size) (hs : s.size ≤ 4096) (w : World) (hG : Aside0 (G w)) : Calls Tryz.prog 21 #[.string s] w (FirstPost w (firstP s.data.toList)) := by
  obtain ⟨c, t, he⟩ : ∃ c t, s.data.toList = c :: t := by
    cases h : s.data.toList with
    | nil => rw [Lib.size_eq, h] at h0; exact absurd h0 (by decide)
    | cons c t => exact ⟨c, t, rfl⟩
  have hne : s.data.toList ≠ [] := by rw [he]; exact List.cons_ne_nil _ _
  have hh : s.data.toList.headD 0 = c := by rw [he]; rfl
  have htl : s.data.toList.tail = t := by rw [he]; rfl
  unfold firstP
  rw [if_neg hne, hh, htl]
  cases hw : wordB c with
  | true =>
    rw [if_pos rfl, ← take_ext]
    exact first_word s c t he hs hw w
  | false =>
    rw [if_neg Bool.false_ne_true]
    cases hd : digL c with
    | true =>
      rw [if_pos rfl, ← take_ext]
      exact first_num s c t he hs hw hd w hG
    | false =>
      rw [if_neg Bool.false_ne_true]
      by_cases hq : c = 34 ∨ c = 96
      · rw [if_pos hq]
        have hqf := quoted_f s hs c t he hq
        cases hr : qEndC c t with
        | none =>
          rw [hr] at hqf
          exact first_text s c t he hs hw hd hq ⟨#[]⟩ ⟨#[]⟩ false 40 hqf (by decide) (by decide) w hG
        | some j =>
          rw [hr] at hqf
          have hjl := (qEndC_le c t j hr).2.1
          have hs1 : s.size = t.length + 1 := by rw [Lib.size_eq, he]; rfl
          have hsz : (s.extract 0 (j + 1)).size = j + 1 := by
            rw [ByteArray.size_extract]
            omega
          have hu : P.quote_Unquote.f (s.extract 0 (j + 1)) = some (P.unq2 (unquoteP (s.extract 0 (j + 1)))) := by
            unfold P.quote_Unquote.f
            rw [if_pos (by omega)]
          rw [un2_eq] at hu
          have h := first_text s c t he hs hw hd hq (s.extract 0 (j + 1)) _ true _ hqf hu (by omega) w hG
          rw [hsz] at h
          simp only
          rw [← take_ext]
          have e : (true && (if (unquoteP (s.extract 0 (j + 1))).isSome = true then (0 : Int) else 40) == 0) = (unquoteP (s.extract 0 (j + 1))).isSome := by
            cases (unquoteP (s.extract 0 (j + 1))).isSome <;> rfl
          rw [e] at h
          exact h
      · rw [if_neg hq]
        have h := first_sign s c t he hs hw hd hq w hG
        unfold signV at h
        exact h
theorem P.lex_first.calls (a0 : ByteArray) (r1 : Int) (r2 : ByteArray) (r3 r4 : Int) (r5 : Bool) (w : World) (hG : Aside0 (G w)) (h : P.lex_first.f a0 = some (r1, r2, r3, r4, r5)) :
    Calls Tryz.prog 21 #[.string a0] w fun e w' => e = .returned (.tuple #[.agg #[.int .i64 r1, .string r2, .int .i64 r3], .int .i64 r4, .bool r5]) ∧ Below w.heap.size w w' := by
  unfold P.lex_first.f at h
  by_cases hc : 0 < a0.size ∧ a0.size ≤ 4096
  case neg => rw [if_neg hc] at h; cases h
  rw [if_pos hc] at h
  have := first_calls a0 hc.1 hc.2 w hG
  cases h
  exact this
end Go.Proofs.YtioofhilohmfbaaGreatDoor
end
section
namespace Go.Proofs.YtioofhilohmfbaaGreatDoor.P
open Go.RowKit Go.Proofs.YtioofhilohmfbaaGreatDoorW.PrintWords Go.Proofs.YtioofhilohmfbaaGreatDoorW.PrintLast Go.Proofs.YtioofhilohmfbaaGreatDoorW.PrintMore
attribute [local go_sem] max2_int min2_int max_two min_two max_three min_three max_four min_four
set_option linter.unusedVariables false
set_option linter.unusedSimpArgs false
/-! ### lex_Tokens: function 8 -/
def lex_Tokens.l0 : Nat → ByteArray → List (S32) → Int → Option ((List (S32)) × Int × Int)
  | 0, _, _, _ => none
  | k + 1, x0, x2, x5 => if x5 < (x0.size : Int) then (if 0 ≤ x5 then (if x5 ≤ (x0.size : Int) then ((lex_first.f (x0.extract (x5 : Int).toNat x0.size)).bind fun bt2 => (if bt2.2.2.2.2 = true then (if x2.length < 4398046511104 then (if 0 ≤ (wrap64 (x5 + bt2.2.2.2.1)) then (if (wrap64 (x5 + bt2.2.2.2.1)) ≤ (x0.size : Int) then ((lex_runBlank.f (x0.extract ((wrap64 (x5 + bt2.2.2.2.1)) : Int).toNat x0.size)).bind fun t11 => (lex_Tokens.l0 k x0 (x2 ++ [(⟨bt2.1, bt2.2.1, x5⟩ : S32)]) (wrap64 ((wrap64 (x5 + bt2.2.2.2.1)) + t11)))) else (none)) else (none)) else (none)) else (some (([] : List (S32)), x5, 200)))) else (none)) else (none)) else (some (x2, 0, 0))
def lex_Tokens.f (k : Nat) (a0 : ByteArray) : Option ((List (S32)) × Int × Int) := if (a0.size : Int) > 4096 then (some (([] : List (S32)), 0, 5)) else ((lex_runBlank.f a0).bind fun t1 => (lex_Tokens.l0 k a0 ([] : List (S32)) t1))
theorem lex_Tokens.mono_l : ∀ k, (∀ y0 y1 y2, LeO (lex_Tokens.l0 k y0 y1 y2) (lex_Tokens.l0 (k + 1) y0 y1 y2))
  | 0 => fun _ _ _ r h => by simp [lex_Tokens.l0] at h
  | k + 1 => by
    have ih0 := lex_Tokens.mono_l k
    · intro y0 y1 y2
      unfold lex_Tokens.l0
      repeat' first
      | (with_reducible exact ih0 _ _ _)
      | (with_reducible exact LeO.refl _)
      | (with_reducible exact LeO.none _)
      | (with_reducible refine LeO.ite ?_ ?_)
      | (with_reducible refine LeO.bind ?_ (fun _ => ?_))
      | exact ih0 _ _ _
      | exact LeO.none _
      | refine LeO.ite ?_ ?_
      | refine LeO.bind ?_ (fun _ => ?_)
theorem lex_Tokens.mono : ∀ a0 k, LeO (lex_Tokens.f k a0) (lex_Tokens.f (k + 1) a0) := by
  intro a0 k
  have ih0 := lex_Tokens.mono_l k
  unfold lex_Tokens.f
  repeat' first
      | (with_reducible exact ih0 _ _ _)
      | (with_reducible exact LeO.refl _)
      | (with_reducible exact LeO.none _)
      | (with_reducible refine LeO.ite ?_ ?_)
      | (with_reducible refine LeO.bind ?_ (fun _ => ?_))
      | exact ih0 _ _ _
      | exact LeO.none _
      | refine LeO.ite ?_ ?_
      | refine LeO.bind ?_ (fun _ => ?_)
set_option maxHeartbeats 8000000 in
set_option maxRecDepth 100000 in
theorem lex_Tokens.calls (k : Nat) (a0 : ByteArray) (r1 : List (S32)) (r2 : Int) (r3 : Int) (w : World) (hG : Aside0 (G w)) (h : lex_Tokens.f k a0 = some (r1, r2, r3)) :
    Calls Tryz.prog 8 #[.string a0] w fun e w' => ∃ v0_ : Value, e = .returned (.tuple #[v0_, .int .i64 r2, .int .i64 r3]) ∧ Kd.R k32 32 w' w.heap.size (fun _ => True) v0_ r1 ∧ Below w.heap.size w w' := by
  have hu32 := Tryz.underlying32
  have HB := Aside0.mk (Below.refl w.heap.size w)
  have H : (if (a0.size : Int) > 4096 then (some (([] : List (S32)), 0, 5)) else ((lex_runBlank.f a0).bind fun t1 => (lex_Tokens.l0 k a0 ([] : List (S32)) t1))) = some (r1, r2, r3) := h
  clear h
  by_cases c2 : (a0.size : Int) > 4096
  · rw [if_pos c2] at H
    have c2b0 : decide (4096 < (a0.size : Int)) = true := decide_eq_true c2
    have c2b1 : decide (4096 < a0.size) = true := decide_eq_true (by omega)
    clear c2
    simp only [Option.some.injEq, Prod.mk.injEq] at H
    obtain ⟨rfl, rfl, rfl⟩ := H
    go_enter Tryz.func8, Tryz.ntmps8
    go_wp2
    go_ret3
    exact ⟨_, by first | rfl | (simp [errW_none, errW_some] <;> rfl) | (simp [*, errW_none, errW_some] <;> rfl), by first | exact Kd.R_nil _ _ _ _ _ | exact Kd.N_nil _ _ _ _ _ | exact Kd.V_nil _ _ _ _ _ | exact Kd.Q_nil _ _ _ _ _ | exact Kd.S_nil _ _ _ _ _, by exact lc HB.out⟩
  · rw [if_neg c2] at H
    have c2b0 : decide (4096 < (a0.size : Int)) = false := decide_eq_false c2
    have c2b1 : decide (4096 < a0.size) = false := decide_eq_false (by omega)
    clear c2
    replace H := Option.bind_eq_some_iff.mp H
    obtain ⟨t1, A30, H⟩ := H
    replace H : (lex_Tokens.l0 k a0 ([] : List (S32)) t1) = some (r1, r2, r3) := H
    have A3 := Aside0.mk A30
    clear A30
    have H' := Aside0.mk H
    clear H
    go_enter Tryz.func8, Tryz.ntmps8
    go_wp2_with (first | (go_at_call 19; (with_reducible refine (lex_runBlank.calls a0 t1 _ A3.out).mono ?_); rintro e w4 ⟨rfl, hb⟩; have n0_ := Aside0.mk (below_step (lc HB.out) hb); clear HB; have HB := n0_; clear n0_; (try clear hb); (try clear hb2); (try clear hk); (try clear hi)))
    go_loopg [2, 5] k (fun kq v2 v5 w' => ∃ (x2_1 : List (S32)) (x5_1 : Int), v5 = .int .i64 x5_1 ∧ Aside0 (lex_Tokens.l0 kq a0 x2_1 x5_1 = some (r1, r2, r3)) ∧ Aside0 (kq ≤ k) ∧ Aside0 (Kd.R k32 32 w' w.heap.size (fun _ => True) v2 x2_1) ∧ Aside0 (Below w.heap.size w w'))
    case atStart => exact ⟨(([] : List (S32))), (t1), (by first | rfl | (simp; done) | (simp [*]; done)), H', ⟨Nat.le_refl _⟩, ⟨by first | exact Kd.R_nil _ _ _ _ _ | exact Kd.N_nil _ _ _ _ _ | exact Kd.V_nil _ _ _ _ _ | exact Kd.Q_nil _ _ _ _ _ | exact Kd.S_nil _ _ _ _ _⟩, ⟨by exact lc HB.out⟩⟩
    case round =>
      clear H'
      try clear c2
      try clear c2b0
      try clear c2b1
      try clear p2
      obtain ⟨x2_1, x5_1, rfl, HA, HK1, HO_2, HB⟩ := hrel
      cases gk with
      | zero => exact absurd HA.out (by simp [lex_Tokens.l0])
      | succ k1 =>
        have H := HA.out
        clear HA
        simp only [lex_Tokens.l0] at H
        by_cases c5 : x5_1 < (a0.size : Int)
        · rw [if_pos c5] at H
          have c5b0 : decide (x5_1 < (a0.size : Int)) = true := decide_eq_true c5
          clear c5
          by_cases c6 : 0 ≤ x5_1
          · rw [if_pos c6] at H
            have c6b0 := eq_true c6
            have c6b1 : decide (0 ≤ x5_1) = true := decide_eq_true c6
            clear c6
            by_cases c7 : x5_1 ≤ (a0.size : Int)
            · rw [if_pos c7] at H
              have c7b0 := eq_true c7
              have c7b1 : decide (x5_1 ≤ (a0.size : Int)) = true := decide_eq_true c7
              clear c7
              replace H := Option.bind_eq_some_iff.mp H
              obtain ⟨⟨t2, t3, t4, t5, t6⟩, A80, H⟩ := H
              replace H : (if t6 = true then (if x2_1.length < 4398046511104 then (if 0 ≤ (wrap64 (x5_1 + t5)) then (if (wrap64 (x5_1 + t5)) ≤ (a0.size : Int) then ((lex_runBlank.f (a0.extract ((wrap64 (x5_1 + t5)) : Int).toNat a0.size)).bind fun t11 => (lex_Tokens.l0 k1 a0 (x2_1 ++ [(⟨t2, t3, x5_1⟩ : S32)]) (wrap64 ((wrap64 (x5_1 + t5)) + t11)))) else (none)) else (none)) else (none)) else (some (([] : List (S32)), x5_1, 200))) = some (r1, r2, r3) := H
              have A8 := Aside0.mk A80
              clear A80
              by_cases c9 : t6 = true
              · subst c9
                have H1 : (if x2_1.length < 4398046511104 then (if 0 ≤ (wrap64 (x5_1 + t5)) then (if (wrap64 (x5_1 + t5)) ≤ (a0.size : Int) then ((lex_runBlank.f (a0.extract ((wrap64 (x5_1 + t5)) : Int).toNat a0.size)).bind fun t11 => (lex_Tokens.l0 k1 a0 (x2_1 ++ [(⟨t2, t3, x5_1⟩ : S32)]) (wrap64 ((wrap64 (x5_1 + t5)) + t11)))) else (none)) else (none)) else (none)) = some (r1, r2, r3) := by rw [if_pos rfl] at H; exact H
                clear H
                have H := H1
                clear H1
                by_cases c10 : x2_1.length < 4398046511104
                · rw [if_pos c10] at H
                  have LMc10 := Aside0.mk c10
                  clear c10
                  obtain ⟨y8, hy8⟩ : ∃ y_ : List (S32), y_ = (x2_1 ++ [(⟨t2, t3, x5_1⟩ : S32)]) := ⟨_, rfl⟩
                  replace H : (if 0 ≤ (wrap64 (x5_1 + t5)) then (if (wrap64 (x5_1 + t5)) ≤ (a0.size : Int) then ((lex_runBlank.f (a0.extract ((wrap64 (x5_1 + t5)) : Int).toNat a0.size)).bind fun t11 => (lex_Tokens.l0 k1 a0 y8 (wrap64 ((wrap64 (x5_1 + t5)) + t11)))) else (none)) else (none)) = some (r1, r2, r3) := by first | (rw [hy8]; with_reducible exact H) | (have H2_ := (Option.bind_some _ _).symm.trans H; rw [hy8]; with_reducible exact H2_) | (have H2_ := (Option.bind_some _ _).symm.trans H; with_reducible exact H2_) | with_reducible exact H | (rw [hy8]; exact H) | exact H
                  have Ny8 := Aside0.mk hy8
                  clear hy8
                  obtain ⟨ji11, hji11⟩ : ∃ j_ : Int, (wrap64 (x5_1 + t5)) = j_ := ⟨_, rfl⟩
                  replace H : (if 0 ≤ (ji11) then (if (ji11) ≤ (a0.size : Int) then ((lex_runBlank.f (a0.extract ((ji11) : Int).toNat a0.size)).bind fun t11 => (lex_Tokens.l0 k1 a0 y8 (wrap64 ((ji11) + t11)))) else (none)) else (none)) = some (r1, r2, r3) := by first | (rw [hji11] at H; exact H) | (simp only [hji11] at H ⊢; exact H)
                  (try rw [hji11] at A8)
                  have hji11w : (IntKind.i64.wrap (x5_1 + t5)) = ji11 := (i64_w _).trans hji11
                  by_cases c12 : 0 ≤ (ji11)
                  · rw [if_pos c12] at H
                    have c12b0 := eq_true c12
                    have c12b1 : decide (0 ≤ (ji11)) = true := decide_eq_true c12
                    clear c12
                    by_cases c13 : (ji11) ≤ (a0.size : Int)
                    · rw [if_pos c13] at H
                      have c13b0 := eq_true c13
                      have c13b1 : decide ((ji11) ≤ (a0.size : Int)) = true := decide_eq_true c13
                      clear c13
                      replace H := Option.bind_eq_some_iff.mp H
                      obtain ⟨t11, A140, H⟩ := H
                      replace H : (lex_Tokens.l0 k1 a0 y8 (wrap64 ((ji11) + t11))) = some (r1, r2, r3) := H
                      have A14 := Aside0.mk A140
                      clear A140
                      have H' := Aside0.mk H
                      clear H
                      go_wp2_with (first | (go_at_call 21; (with_reducible refine (lex_first.calls (a0.extract (x5_1 : Int).toNat a0.size) t2 t3 t4 t5 true _ ?side1 A8.out).mono ?_); (case side1 => exact G.at hG.out (lc HB.out)); rintro e w15 ⟨rfl, hb⟩; have n0_ := Aside0.mk (Kd.R_below (rc HO_2.out) hb); have n1_ := Aside0.mk (below_step (lc HB.out) hb); clear HO_2; clear HB; have HO_2 := n0_; have HB := n1_; clear n0_ n1_; (try clear hb); (try clear hb2); (try clear hk); (try clear hi)) | ((with_reducible refine gate_dst (N := 6) rfl ?_); refine box_event ?hg (N := 6) ?hd (cs := #[.int .i64 0, .string (⟨#[]⟩ : ByteArray), .int .i64 0]) (t := 32) ?hr ?_; (case hd => rfl); (case hg => rfl); (case hr => first | (go_simp; done) | (go_simp; rfl)); intro gb7 hg w16 hbox hb; have n0_ := Aside0.mk (Kd.R_below (Kd.R_elderB (rc HO_2.out) gb7 (Nat.le_of_eq hg.symm)) hb); have n1_ := Aside0.mk (below_step (lc HB.out) hb); have n2_ := Aside0.mk (hbox); have n3_ := Aside0.mk ((by rw [hg]; exact (below_size (lc HB.out)) : w.heap.size ≤ gb7)); have n4_ := Aside0.mk ((by rw [hg]; exact (below_size (lc HB.out)) : w.heap.size ≤ gb7)); clear HO_2; clear HB; have HO_2 := n0_; have HB := n1_; have BK7 := n2_; have GW7 := n3_; have GE7 := n4_; clear n0_ n1_ n2_ n3_ n4_; clear hb hbox hg; have hcz17_0 : w16.cell? ⟨gb7, 0, none⟩ = some (.int .i64 0) := (blk_cell BK7.out 0).trans rfl; have hcz17_1 : w16.cell? ⟨gb7, 1, none⟩ = some (.string (⟨#[]⟩ : ByteArray)) := (blk_cell BK7.out 1).trans rfl; have hcz17_2 : w16.cell? ⟨gb7, 2, none⟩ = some (.int .i64 0) := (blk_cell BK7.out 2).trans rfl; have hfz17_0 := blk_frozen BK7.out 0; have hfz17_1 := blk_frozen BK7.out 1; have hfz17_2 := blk_frozen BK7.out 2; (try have hbz_gb7_0 : w16.cell? ⟨gb7, 0, none⟩ = some (.int .i64 0) := (blk_cell BK7.out 0).trans rfl); (try have hbf_gb7_0 := blk_frozen BK7.out 0); (try have hbz_gb7_1 : w16.cell? ⟨gb7, 1, none⟩ = some (.string (⟨#[]⟩ : ByteArray)) := (blk_cell BK7.out 1).trans rfl); (try have hbf_gb7_1 := blk_frozen BK7.out 1); (try have hbz_gb7_2 : w16.cell? ⟨gb7, 2, none⟩ = some (.int .i64 0) := (blk_cell BK7.out 2).trans rfl); (try have hbf_gb7_2 := blk_frozen BK7.out 2); (try have hst_gb7 : ∀ a_ b_ c_ d_ : Value, ((((w16.setCell ⟨gb7, 0, none⟩ a_).setCell ⟨gb7, 1, none⟩ b_).setCell ⟨gb7, 2, none⟩ c_).setCell ⟨gb7, 2, none⟩ d_).cell? ⟨gb7, 2, none⟩ = some d_ := fun a_ b_ c_ d_ => (blk_cell (blk_put (blk_put (blk_put (blk_put BK7.out 0 a_ rfl) 1 b_ rfl) 2 c_ rfl) 2 d_ rfl) 2).trans rfl)) | ((with_reducible refine gate_builtin (b := .append) (xs := #[.tmp 37, .tmp 39]) rfl ?_); at_builtin; refine Kd.R_append k32 (w0 := w) w.heap.size rfl (.tmp 37) (.tmp 39) 22 32 (.agg #[(.int .i64 0), (.string ⟨#[]⟩), (.int .i64 0)]) 32 rfl Tryz.underlying22 info32 rfl (by decide) (by omega) u2 x2_1 (⟨t2, t3, x5_1⟩ : S32) [.int .i64 t2, .string t3, .int .i64 x5_1] (fun k_ => k_ ≠ gb7) (fun _ => False) rfl (by first | (go_simp; done) | (go_simp; rfl)) ?aP (fun _ hk => hk.elim) ?aF ?aO ?aB ?aS ?aL ?_; (case aP => exact k32_mkM _ _ _ (⟨t2, t3, x5_1⟩ : S32)); (case aB => exact (by repeat (first | (with_reducible first | exact HB.out | apply below_alloc | apply pw_below_drewN | apply below_drew1 | refine below_set ?_ GE7.out) | exact HB.out))); (case aF => exact (fun k_ hk => Kd.freshB (g := gb7) (o := .cells #[.int .i64 t2, .string t3, .int .i64 x5_1] 32 (0, 0)) (by (with_reducible repeat (first | refine blk_drewN ?_ _ | refine blk_drew ?_ | refine blk_alloc ?_ _)); refine blk_put (cs := #[.int .i64 t2, .string t3, .int .i64 t4]) ?_ 2 _ rfl; (with_reducible repeat (first | refine blk_drewN ?_ _ | refine blk_drew ?_ | refine blk_alloc ?_ _)); refine blk_put (cs := #[.int .i64 t2, .string t3, .int .i64 0]) ?_ 2 _ rfl; (with_reducible repeat (first | refine blk_drewN ?_ _ | refine blk_drew ?_ | refine blk_alloc ?_ _)); refine blk_put (cs := #[.int .i64 t2, .string (⟨#[]⟩ : ByteArray), .int .i64 0]) ?_ 1 _ rfl; (with_reducible repeat (first | refine blk_drewN ?_ _ | refine blk_drew ?_ | refine blk_alloc ?_ _)); refine blk_put (cs := #[.int .i64 0, .string (⟨#[]⟩ : ByteArray), .int .i64 0]) ?_ 0 _ rfl; (with_reducible repeat (first | refine blk_drewN ?_ _ | refine blk_drew ?_ | refine blk_alloc ?_ _)); exact BK7.out) k_ hk)); (case aO => exact (by (with_reducible repeat (first | apply Kd.R_alloc | apply Kd.R_drewN | apply Kd.R_drew)); exact Kd.R_mono (Kd.R_far (p := ⟨gb7, 2, none⟩) (Kd.R_far (p := ⟨gb7, 2, none⟩) (Kd.R_far (p := ⟨gb7, 1, none⟩) (Kd.R_far (p := ⟨gb7, 0, none⟩) (Kd.R_mono HO_2.out (fun k_ hk => (⟨hk, hk.2⟩ : _ ∧ k_ ≠ gb7))) (fun _ hk => hk.2) (.int .i64 t2)) (fun _ hk => hk.2) (.string t3)) (fun _ hk => hk.2) (.int .i64 t4)) (fun _ hk => hk.2) (.int .i64 x5_1)) (fun _ hk => hk.1.2))); (case aS => exact (below_size (by repeat (first | (with_reducible first | exact HB.out | apply below_alloc | apply pw_below_drewN | apply below_drew1 | refine below_set ?_ GE7.out) | exact HB.out)))); (case aL => have := LMc10.out; omega); intro v9 w18 ho hb hg hat; rw [← Ny8.out] at ho; have n0_ := Aside0.mk (blk_grown (g := gb7) (o := .cells #[.int .i64 t2, .string t3, .int .i64 x5_1] 32 (0, 0)) (by (with_reducible repeat (first | refine blk_drewN ?_ _ | refine blk_drew ?_ | refine blk_alloc ?_ _)); refine blk_put (cs := #[.int .i64 t2, .string t3, .int .i64 t4]) ?_ 2 _ rfl; (with_reducible repeat (first | refine blk_drewN ?_ _ | refine blk_drew ?_ | refine blk_alloc ?_ _)); refine blk_put (cs := #[.int .i64 t2, .string t3, .int .i64 0]) ?_ 2 _ rfl; (with_reducible repeat (first | refine blk_drewN ?_ _ | refine blk_drew ?_ | refine blk_alloc ?_ _)); refine blk_put (cs := #[.int .i64 t2, .string (⟨#[]⟩ : ByteArray), .int .i64 0]) ?_ 1 _ rfl; (with_reducible repeat (first | refine blk_drewN ?_ _ | refine blk_drew ?_ | refine blk_alloc ?_ _)); refine blk_put (cs := #[.int .i64 0, .string (⟨#[]⟩ : ByteArray), .int .i64 0]) ?_ 0 _ rfl; (with_reducible repeat (first | refine blk_drewN ?_ _ | refine blk_drew ?_ | refine blk_alloc ?_ _)); exact BK7.out) hg (Kd.R_away HO_2.out (fun _ hk => hk.2))); have n1_ := Aside0.mk (hb); have n2_ := Aside0.mk (ho); clear BK7; clear HB; clear HO_2; have BK7 := n0_; have HB := n1_; have HO10 := n2_; clear n0_ n1_ n2_; clear ho hb hg hat) | ((with_reducible refine gate_callee (f := 19) rfl ?_); refine goesL_ (some 22) rfl rfl Tryz.func19 (by kernel_rfl) rfl #[.string (a0.extract ((ji11) : Int).toNat a0.size), .func (.func 20) #[] #[]] rfl (by (try simp only [List.map_toArray, List.map_cons, List.map_nil]); first | done | (simp only [hji11]; rfl) | rfl | (simp only [List.length_drop, List.length_take]; rfl)) ?_; (with_reducible refine (lex_runBlank.calls (a0.extract ((ji11) : Int).toNat a0.size) t11 _ A14.out).mono ?_); rintro e w19 ⟨rfl, hb⟩; refine ⟨_, rfl, ?_⟩; have n0_ := Aside0.mk (Kd.R_below (rc HO10.out) hb); have n1_ := Aside0.mk (blk_below (g := gb7) (o := .cells #[.int .i64 t2, .string t3, .int .i64 x5_1] 32 (0, 0)) (bc BK7.out) hb); have n2_ := Aside0.mk (below_step (by repeat (first | (with_reducible first | exact HB.out | apply below_alloc | apply pw_below_drewN | apply below_drew1 | refine below_set ?_ GE7.out) | exact HB.out)) hb); clear HO10; clear BK7; clear HB; have HO10 := n0_; have BK7 := n1_; have HB := n2_; clear n0_ n1_ n2_; (try clear hb); (try clear hb2); (try clear hk); (try clear hi)))
                      go_roundg k1
                      case measure => have := HK1.out; omega
                      case rel => exact ⟨(y8), (wrap64 ((ji11) + t11)), (by first | rfl | (simp; done) | (simp only [← hji11] <;> (first | rfl | simp)) | (simp [*]; done)), H', ⟨by have := HK1.out; omega⟩, ⟨by (with_reducible repeat (first | apply Kd.R_alloc | apply Kd.R_drewN | apply Kd.R_drew)); exact Kd.R_mono HO10.out (fun _ hk => trivial)⟩, ⟨by repeat (first | (with_reducible first | exact HB.out | apply below_alloc | apply pw_below_drewN | apply below_drew1 | refine below_set ?_ GE7.out) | exact HB.out)⟩⟩
                    · rw [if_neg c13] at H
                      exact absurd H (by simp)
                  · rw [if_neg c12] at H
                    exact absurd H (by simp)
                · rw [if_neg c10] at H
                  exact absurd H (by simp)
              · replace c9 := Bool.eq_false_iff.mpr c9
                subst c9
                have H1 : (some (([] : List (S32)), x5_1, 200)) = some (r1, r2, r3) := by rw [if_neg (show ¬ (false = true) by decide)] at H; exact H
                clear H
                have H := H1
                clear H1
                simp only [Option.some.injEq, Prod.mk.injEq] at H
                obtain ⟨rfl, rfl, rfl⟩ := H
                go_wp2_with (first | (go_at_call 21; (with_reducible refine (lex_first.calls (a0.extract (x5_1 : Int).toNat a0.size) t2 t3 t4 t5 false _ ?side1 A8.out).mono ?_); (case side1 => exact G.at hG.out (lc HB.out)); rintro e w20 ⟨rfl, hb⟩; have n0_ := Aside0.mk (Kd.R_below (rc HO_2.out) hb); have n1_ := Aside0.mk (below_step (lc HB.out) hb); clear HO_2; clear HB; have HO_2 := n0_; have HB := n1_; clear n0_ n1_; (try clear hb); (try clear hb2); (try clear hk); (try clear hi)) | ((with_reducible refine gate_dst (N := 6) rfl ?_); refine box_event ?hg (N := 6) ?hd (cs := #[.int .i64 0, .string (⟨#[]⟩ : ByteArray), .int .i64 0]) (t := 32) ?hr ?_; (case hd => rfl); (case hg => rfl); (case hr => first | (go_simp; done) | (go_simp; rfl)); intro gb7 hg w21 hbox hb; have n0_ := Aside0.mk (Kd.R_below (Kd.R_elderB (rc HO_2.out) gb7 (Nat.le_of_eq hg.symm)) hb); have n1_ := Aside0.mk (below_step (lc HB.out) hb); have n2_ := Aside0.mk (hbox); have n3_ := Aside0.mk ((by rw [hg]; exact (below_size (lc HB.out)) : w.heap.size ≤ gb7)); have n4_ := Aside0.mk ((by rw [hg]; exact (below_size (lc HB.out)) : w.heap.size ≤ gb7)); clear HO_2; clear HB; have HO_2 := n0_; have HB := n1_; have BK7 := n2_; have GW7 := n3_; have GE7 := n4_; clear n0_ n1_ n2_ n3_ n4_; clear hb hbox hg; have hcz22_0 : w21.cell? ⟨gb7, 0, none⟩ = some (.int .i64 0) := (blk_cell BK7.out 0).trans rfl; have hcz22_1 : w21.cell? ⟨gb7, 1, none⟩ = some (.string (⟨#[]⟩ : ByteArray)) := (blk_cell BK7.out 1).trans rfl; have hcz22_2 : w21.cell? ⟨gb7, 2, none⟩ = some (.int .i64 0) := (blk_cell BK7.out 2).trans rfl; have hfz22_0 := blk_frozen BK7.out 0; have hfz22_1 := blk_frozen BK7.out 1; have hfz22_2 := blk_frozen BK7.out 2))
                go_ret3
                exact ⟨_, by first | rfl | (simp [errW_none, errW_some] <;> rfl) | (simp [*, errW_none, errW_some] <;> rfl), by first | exact Kd.R_nil _ _ _ _ _ | exact Kd.N_nil _ _ _ _ _ | exact Kd.V_nil _ _ _ _ _ | exact Kd.Q_nil _ _ _ _ _ | exact Kd.S_nil _ _ _ _ _, by repeat (first | (with_reducible first | exact HB.out | apply below_alloc | apply pw_below_drewN | apply below_drew1 | refine below_set ?_ GE7.out) | exact HB.out)⟩
            · rw [if_neg c7] at H
              exact absurd H (by simp)
          · rw [if_neg c6] at H
            exact absurd H (by simp)
        · rw [if_neg c5] at H
          have c5b0 : decide (x5_1 < (a0.size : Int)) = false := decide_eq_false c5
          clear c5
          simp only [Option.some.injEq, Prod.mk.injEq] at H
          obtain ⟨rfl, rfl, rfl⟩ := H
          go_wp2
          go_ret3
          exact ⟨_, by first | rfl | (simp [errW_none, errW_some] <;> rfl) | (simp [*, errW_none, errW_some] <;> rfl), by (with_reducible repeat (first | apply Kd.R_alloc | apply Kd.R_drewN | apply Kd.R_drew)); exact HO_2.out, by exact lc HB.out⟩
end Go.Proofs.YtioofhilohmfbaaGreatDoor.P
end
section
namespace Go.Proofs.YtioofhilohmfbaaGreatDoor.P
open Go.RowKit Go.Proofs.YtioofhilohmfbaaGreatDoorW.PrintWords Go.Proofs.YtioofhilohmfbaaGreatDoorW.PrintLast Go.Proofs.YtioofhilohmfbaaGreatDoorW.PrintMore
attribute [local go_sem] max2_int min2_int max_two min_two max_three min_three max_four min_four
set_option linter.unusedVariables false
set_option linter.unusedSimpArgs false
/-! ### driftnetlaw20_is: function 25 -/
def driftnetlaw20_is.l0 : Nat → ByteArray → List (S32) → Int → Int → ByteArray → Int → Option (Bool)
  | 0, _, _, _, _, _, _ => none
  | k + 1, x1, x5, x6, x7, x8, x9 => if x9 < (x5.length : Int) then (if x9 > 0 then (if x8.size + 1 ≤ 9223372036854775807 then (if 0 ≤ x9 then (if (x8 ++ (⟨#[32]⟩ : ByteArray)).size + ((rd_T32 x5 x9).f1).size ≤ 9223372036854775807 then (driftnetlaw20_is.l0 k x1 x5 x6 x7 ((x8 ++ (⟨#[32]⟩ : ByteArray)) ++ ((rd_T32 x5 x9).f1)) (wrap64 (x9 + 1))) else (none)) else (none)) else (none)) else (if 0 ≤ x9 then (if x8.size + ((rd_T32 x5 x9).f1).size ≤ 9223372036854775807 then (driftnetlaw20_is.l0 k x1 x5 x6 x7 (x8 ++ ((rd_T32 x5 x9).f1)) (wrap64 (x9 + 1))) else (none)) else (none))) else (if x7 = 0 then (if x6 = 0 then (some (x8.toList == x1.toList)) else (some false)) else (some false))
def driftnetlaw20_is.f (k : Nat) (a0 : ByteArray) (a1 : ByteArray) : Option (Bool) := (lex_Tokens.f k a0).bind fun bt1 => (driftnetlaw20_is.l0 k a1 bt1.1 bt1.2.1 bt1.2.2 (⟨#[]⟩ : ByteArray) 0)
theorem driftnetlaw20_is.mono_l : ∀ k, (∀ y0 y1 y2 y3 y4 y5, LeO (driftnetlaw20_is.l0 k y0 y1 y2 y3 y4 y5) (driftnetlaw20_is.l0 (k + 1) y0 y1 y2 y3 y4 y5))
  | 0 => fun _ _ _ _ _ _ r h => by simp [driftnetlaw20_is.l0] at h
  | k + 1 => by
    have ih0 := driftnetlaw20_is.mono_l k
    · intro y0 y1 y2 y3 y4 y5
      unfold driftnetlaw20_is.l0
      repeat' first
      | (with_reducible exact ih0 _ _ _ _ _ _)
      | (with_reducible exact lex_Tokens.mono _ _)
      | (with_reducible exact LeO.refl _)
      | (with_reducible exact LeO.none _)
      | (with_reducible refine LeO.ite ?_ ?_)
      | (with_reducible refine LeO.bind ?_ (fun _ => ?_))
      | exact ih0 _ _ _ _ _ _
      | exact lex_Tokens.mono _ _
      | exact LeO.none _
      | refine LeO.ite ?_ ?_
      | refine LeO.bind ?_ (fun _ => ?_)
theorem driftnetlaw20_is.mono : ∀ a0 a1 k, LeO (driftnetlaw20_is.f k a0 a1) (driftnetlaw20_is.f (k + 1) a0 a1) := by
  intro a0 a1 k
  have ih0 := driftnetlaw20_is.mono_l k
  unfold driftnetlaw20_is.f
  repeat' first
      | (with_reducible exact ih0 _ _ _ _ _ _)
      | (with_reducible exact lex_Tokens.mono _ _)
      | (with_reducible exact LeO.refl _)
      | (with_reducible exact LeO.none _)
      | (with_reducible refine LeO.ite ?_ ?_)
      | (with_reducible refine LeO.bind ?_ (fun _ => ?_))
      | exact ih0 _ _ _ _ _ _
      | exact lex_Tokens.mono _ _
      | exact LeO.none _
      | refine LeO.ite ?_ ?_
      | refine LeO.bind ?_ (fun _ => ?_)
set_option maxHeartbeats 8000000 in
set_option maxRecDepth 100000 in
theorem driftnetlaw20_is.calls (k : Nat) (a0 : ByteArray) (a1 : ByteArray) (r : Bool) (w : World) (hG : Aside0 (G w)) (h : driftnetlaw20_is.f k a0 a1 = some r) :
    Calls Tryz.prog 25 #[.string a0, .string a1] w fun e w' => e = .returned (.bool r) ∧ Below w.heap.size w w' := by
  have HB := Aside0.mk (Below.refl w.heap.size w)
  have H : ((lex_Tokens.f k a0).bind fun bt1 => (driftnetlaw20_is.l0 k a1 bt1.1 bt1.2.1 bt1.2.2 (⟨#[]⟩ : ByteArray) 0)) = some r := h
  clear h
  replace H := Option.bind_eq_some_iff.mp H
  obtain ⟨⟨t1, t2, t3⟩, A30, H⟩ := H
  replace H : (driftnetlaw20_is.l0 k a1 t1 t2 t3 (⟨#[]⟩ : ByteArray) 0) = some r := H
  have A3 := Aside0.mk A30
  clear A30
  have H' := Aside0.mk H
  clear H
  go_enter Tryz.func25, Tryz.ntmps25
  go_wp2_with (first | (go_at_call 8; (with_reducible refine (lex_Tokens.calls k a0 t1 t2 t3 _ ?side1 A3.out).mono ?_); (case side1 => exact G.at hG.out (lc HB.out)); rintro e w4 ⟨v4, rfl, ho0, hb⟩; have n0_ := Aside0.mk (Kd.R_lower ho0 (below_size (lc HB.out))); have n1_ := Aside0.mk (below_step (lc HB.out) hb); clear HB; have HO5 := n0_; have HB := n1_; clear n0_ n1_; (try clear hb); (try clear hb2); (try clear hk); (try clear hi); (try clear ho0)))
  go_loopg [8, 9] k (fun kq v8 v9 w' => ∃ (x8_1 : ByteArray) (x9_1 : Int), v8 = .string x8_1 ∧ v9 = .int .i64 x9_1 ∧ Aside0 (driftnetlaw20_is.l0 kq a1 t1 t2 t3 x8_1 x9_1 = some r) ∧ Aside0 (kq ≤ k) ∧ Aside0 (Kd.R k32 32 w' w.heap.size (fun _ => True) v4 t1) ∧ Aside0 (Below w.heap.size w w'))
  case atStart => exact ⟨((⟨#[]⟩ : ByteArray)), (0), (by first | rfl | (simp; done) | (simp [*]; done)), (by first | rfl | (simp; done) | (simp [*]; done)), H', ⟨Nat.le_refl _⟩, ⟨by (with_reducible repeat (first | apply Kd.R_alloc | apply Kd.R_drewN | apply Kd.R_drew)); exact HO5.out⟩, ⟨by exact lc HB.out⟩⟩
  case round =>
    clear H'
    try clear c2
    try clear p2
    obtain ⟨x8_1, x9_1, rfl, rfl, HA, HK1, HO_5, HB⟩ := hrel
    cases gk with
    | zero => exact absurd HA.out (by simp [driftnetlaw20_is.l0])
    | succ k1 =>
      have H := HA.out
      clear HA
      simp only [driftnetlaw20_is.l0] at H
      by_cases c5 : x9_1 < (t1.length : Int)
      · rw [if_pos c5] at H
        have c5b0 : decide (x9_1 < (t1.length : Int)) = true := decide_eq_true c5
        clear c5
        by_cases c6 : x9_1 > 0
        · rw [if_pos c6] at H
          have c6b0 : decide (0 < x9_1) = true := decide_eq_true c6
          clear c6
          by_cases c7 : x8_1.size + 1 ≤ 9223372036854775807
          · rw [if_pos c7] at H
            have c7b0 := eq_true c7
            have c7b1 : decide (x8_1.size + 1 ≤ 9223372036854775807) = true := decide_eq_true c7
            try have c7b2 : (9223372036854775807 < x8_1.size + 1) = False := eq_false (Nat.not_lt.2 c7)
            by_cases c8 : 0 ≤ x9_1
            · rw [if_pos c8] at H
              have c8b0 : decide (0 ≤ x9_1) = true := decide_eq_true c8
              clear c8
              by_cases c9 : (x8_1 ++ (⟨#[32]⟩ : ByteArray)).size + ((rd_T32 t1 x9_1).f1).size ≤ 9223372036854775807
              · rw [if_pos c9] at H
                have c9b0 := eq_true c9
                have c9b1 : decide ((x8_1 ++ (⟨#[32]⟩ : ByteArray)).size + ((rd_T32 t1 x9_1).f1).size ≤ 9223372036854775807) = true := decide_eq_true c9
                try have c9b2 : (9223372036854775807 < (x8_1 ++ (⟨#[32]⟩ : ByteArray)).size + ((rd_T32 t1 x9_1).f1).size) = False := eq_false (Nat.not_lt.2 c9)
                have H' := Aside0.mk H
                clear H
                obtain ⟨Ao10, co10, eo10⟩ := Kd.R_slice HO_5.out
                subst eo10
                have p6 : 0 ≤ (x9_1 : Int) := of_decide_eq_true (by first | (with_reducible assumption) | assumption)
                have q6 : x9_1 < (t1.length : Int) := of_decide_eq_true (by first | (with_reducible assumption) | assumption)
                obtain ⟨ad6, e6, hx6_0, hx6_1, hx6_2⟩ := at_T32 (Kd.R_reads' HO_5.out).2.2 x9_1 p6 q6
                cases e6
                replace p6 := eq_true p6
                replace q6 := eq_true q6
                go_wp2
                go_roundg k1
                case measure => have := HK1.out; omega
                case rel => exact ⟨((x8_1 ++ (⟨#[32]⟩ : ByteArray)) ++ ((rd_T32 t1 x9_1).f1)), (wrap64 (x9_1 + 1)), (by first | rfl | (simp; done) | (simp [*]; done)), (by first | rfl | (simp; done) | (simp [*]; done)), H', ⟨by have := HK1.out; omega⟩, ⟨by (with_reducible repeat (first | apply Kd.R_alloc | apply Kd.R_drewN | apply Kd.R_drew)); exact HO_5.out⟩, ⟨by exact lc HB.out⟩⟩
              · rw [if_neg c9] at H
                exact absurd H (by simp)
            · rw [if_neg c8] at H
              exact absurd H (by simp)
          · rw [if_neg c7] at H
            exact absurd H (by simp)
        · rw [if_neg c6] at H
          have c6b0 : decide (0 < x9_1) = false := decide_eq_false c6
          clear c6
          by_cases c11 : 0 ≤ x9_1
          · rw [if_pos c11] at H
            have c11b0 : decide (0 ≤ x9_1) = true := decide_eq_true c11
            clear c11
            by_cases c12 : x8_1.size + ((rd_T32 t1 x9_1).f1).size ≤ 9223372036854775807
            · rw [if_pos c12] at H
              have c12b0 := eq_true c12
              have c12b1 : decide (x8_1.size + ((rd_T32 t1 x9_1).f1).size ≤ 9223372036854775807) = true := decide_eq_true c12
              try have c12b2 : (9223372036854775807 < x8_1.size + ((rd_T32 t1 x9_1).f1).size) = False := eq_false (Nat.not_lt.2 c12)
              have H' := Aside0.mk H
              clear H
              obtain ⟨Ao13, co13, eo13⟩ := Kd.R_slice HO_5.out
              subst eo13
              have p7 : 0 ≤ (x9_1 : Int) := of_decide_eq_true (by first | (with_reducible assumption) | assumption)
              have q7 : x9_1 < (t1.length : Int) := of_decide_eq_true (by first | (with_reducible assumption) | assumption)
              obtain ⟨ad7, e7, hx7_0, hx7_1, hx7_2⟩ := at_T32 (Kd.R_reads' HO_5.out).2.2 x9_1 p7 q7
              cases e7
              replace p7 := eq_true p7
              replace q7 := eq_true q7
              go_wp2
              go_roundg k1
              case measure => have := HK1.out; omega
              case rel => exact ⟨(x8_1 ++ ((rd_T32 t1 x9_1).f1)), (wrap64 (x9_1 + 1)), (by first | rfl | (simp; done) | (simp [*]; done)), (by first | rfl | (simp; done) | (simp [*]; done)), H', ⟨by have := HK1.out; omega⟩, ⟨by (with_reducible repeat (first | apply Kd.R_alloc | apply Kd.R_drewN | apply Kd.R_drew)); exact HO_5.out⟩, ⟨by exact lc HB.out⟩⟩
            · rw [if_neg c12] at H
              exact absurd H (by simp)
          · rw [if_neg c11] at H
            exact absurd H (by simp)
      · rw [if_neg c5] at H
        have c5b0 : decide (x9_1 < (t1.length : Int)) = false := decide_eq_false c5
        clear c5
        by_cases c14 : t3 = 0
        · rw [if_pos c14] at H
          have c14b0 : (t3 == 0) = true := beq_iff_eq.mpr c14
          have c14b1 : (t3 != 0) = false := bne_eq_false_iff_eq.mpr c14
          clear c14
          by_cases c15 : t2 = 0
          · rw [if_pos c15] at H
            have c15b0 : (t2 == 0) = true := beq_iff_eq.mpr c15
            have c15b1 : (t2 != 0) = false := bne_eq_false_iff_eq.mpr c15
            clear c15
            obtain rfl := Option.some.inj H
            obtain ⟨Ao16, co16, eo16⟩ := Kd.R_slice HO_5.out
            subst eo16
            go_wp2
            go_ret
            exact ⟨by first | rfl | (simp [errW_none, errW_some] <;> rfl) | (simp [*, errW_none, errW_some] <;> rfl), by exact lc HB.out⟩
          · rw [if_neg c15] at H
            have c15b0 : (t2 == 0) = false := beq_eq_false_iff_ne.mpr c15
            have c15b1 : (t2 != 0) = true := bne_iff_ne.mpr c15
            obtain rfl := Option.some.inj H
            obtain ⟨Ao17, co17, eo17⟩ := Kd.R_slice HO_5.out
            subst eo17
            go_wp2
            go_ret
            exact ⟨by first | rfl | (simp [errW_none, errW_some] <;> rfl) | (simp [*, errW_none, errW_some] <;> rfl), by exact lc HB.out⟩
        · rw [if_neg c14] at H
          have c14b0 : (t3 == 0) = false := beq_eq_false_iff_ne.mpr c14
          have c14b1 : (t3 != 0) = true := bne_iff_ne.mpr c14
          obtain rfl := Option.some.inj H
          obtain ⟨Ao18, co18, eo18⟩ := Kd.R_slice HO_5.out
          subst eo18
          go_wp2
          go_ret
          exact ⟨by first | rfl | (simp [errW_none, errW_some] <;> rfl) | (simp [*, errW_none, errW_some] <;> rfl), by exact lc HB.out⟩
end Go.Proofs.YtioofhilohmfbaaGreatDoor.P
end
section
namespace Go.Proofs.YtioofhilohmfbaaGreatDoor.P
open Go.RowKit Go.Proofs.YtioofhilohmfbaaGreatDoorW.PrintWords Go.Proofs.YtioofhilohmfbaaGreatDoorW.PrintLast Go.Proofs.YtioofhilohmfbaaGreatDoorW.PrintMore
attribute [local go_sem] max2_int min2_int max_two min_two max_three min_three max_four min_four
set_option linter.unusedVariables false
set_option linter.unusedSimpArgs false
/-! ### driftnetlaw20_wrong: function 24 -/
def driftnetlaw20_wrong.f (k : Nat) (a0 : ByteArray) (a1 : Int) : Option (Bool) := (lex_Tokens.f k a0).bind fun bt1 => (if bt1.2.2 = 200 then (if bt1.2.1 = a1 then (some ((bt1.1.length : Int) == 0)) else (some false)) else (some false))
theorem driftnetlaw20_wrong.mono : ∀ a0 a1 k, LeO (driftnetlaw20_wrong.f k a0 a1) (driftnetlaw20_wrong.f (k + 1) a0 a1) := by
  intro a0 a1 k
  unfold driftnetlaw20_wrong.f
  repeat' first
      | (with_reducible exact lex_Tokens.mono _ _)
      | (with_reducible exact LeO.refl _)
      | (with_reducible exact LeO.none _)
      | (with_reducible refine LeO.ite ?_ ?_)
      | (with_reducible refine LeO.bind ?_ (fun _ => ?_))
      | exact lex_Tokens.mono _ _
      | exact LeO.none _
      | refine LeO.ite ?_ ?_
      | refine LeO.bind ?_ (fun _ => ?_)
set_option maxHeartbeats 8000000 in
set_option maxRecDepth 100000 in
theorem driftnetlaw20_wrong.calls (k : Nat) (a0 : ByteArray) (a1 : Int) (r : Bool) (w : World) (hG : Aside0 (G w)) (h : driftnetlaw20_wrong.f k a0 a1 = some r) :
    Calls Tryz.prog 24 #[.string a0, .int .i64 a1] w fun e w' => e = .returned (.bool r) ∧ Below w.heap.size w w' := by
  have HB := Aside0.mk (Below.refl w.heap.size w)
  have H : ((lex_Tokens.f k a0).bind fun bt1 => (if bt1.2.2 = 200 then (if bt1.2.1 = a1 then (some ((bt1.1.length : Int) == 0)) else (some false)) else (some false))) = some r := h
  clear h
  replace H := Option.bind_eq_some_iff.mp H
  obtain ⟨⟨t1, t2, t3⟩, A30, H⟩ := H
  replace H : (if t3 = 200 then (if t2 = a1 then (some ((t1.length : Int) == 0)) else (some false)) else (some false)) = some r := H
  have A3 := Aside0.mk A30
  clear A30
  by_cases c4 : t3 = 200
  · rw [if_pos c4] at H
    have c4b0 : (t3 == 200) = true := beq_iff_eq.mpr c4
    have c4b1 : (t3 != 200) = false := bne_eq_false_iff_eq.mpr c4
    clear c4
    by_cases c5 : t2 = a1
    · rw [if_pos c5] at H
      have c5b0 : (t2 == a1) = true := beq_iff_eq.mpr c5
      have c5b1 : (t2 != a1) = false := bne_eq_false_iff_eq.mpr c5
      clear c5
      obtain rfl := Option.some.inj H
      go_enter Tryz.func24, Tryz.ntmps24
      go_wp2_with (first | (go_at_call 8; (with_reducible refine (lex_Tokens.calls k a0 t1 t2 t3 _ ?side1 A3.out).mono ?_); (case side1 => exact G.at hG.out (lc HB.out)); rintro e w6 ⟨v4, rfl, ho0, hb⟩; have n0_ := Aside0.mk (Kd.R_lower ho0 (below_size (lc HB.out))); have n1_ := Aside0.mk (below_step (lc HB.out) hb); clear HB; have HO5 := n0_; have HB := n1_; clear n0_ n1_; (try clear hb); (try clear hb2); (try clear hk); (try clear hi); (try clear ho0); obtain ⟨Ao7, co7, eo7⟩ := Kd.R_slice HO5.out; subst eo7))
      go_ret
      exact ⟨by first | rfl | (simp [errW_none, errW_some] <;> rfl) | (simp [*, errW_none, errW_some] <;> rfl), by exact lc HB.out⟩
    · rw [if_neg c5] at H
      have c5b0 : (t2 == a1) = false := beq_eq_false_iff_ne.mpr c5
      have c5b1 : (t2 != a1) = true := bne_iff_ne.mpr c5
      obtain rfl := Option.some.inj H
      go_enter Tryz.func24, Tryz.ntmps24
      go_wp2_with (first | (go_at_call 8; (with_reducible refine (lex_Tokens.calls k a0 t1 t2 t3 _ ?side1 A3.out).mono ?_); (case side1 => exact G.at hG.out (lc HB.out)); rintro e w8 ⟨v4, rfl, ho0, hb⟩; have n0_ := Aside0.mk (Kd.R_lower ho0 (below_size (lc HB.out))); have n1_ := Aside0.mk (below_step (lc HB.out) hb); clear HB; have HO5 := n0_; have HB := n1_; clear n0_ n1_; (try clear hb); (try clear hb2); (try clear hk); (try clear hi); (try clear ho0)))
      go_ret
      exact ⟨by first | rfl | (simp [errW_none, errW_some] <;> rfl) | (simp [*, errW_none, errW_some] <;> rfl), by exact lc HB.out⟩
  · rw [if_neg c4] at H
    have c4b0 : (t3 == 200) = false := beq_eq_false_iff_ne.mpr c4
    have c4b1 : (t3 != 200) = true := bne_iff_ne.mpr c4
    obtain rfl := Option.some.inj H
    go_enter Tryz.func24, Tryz.ntmps24
    go_wp2_with (first | (go_at_call 8; (with_reducible refine (lex_Tokens.calls k a0 t1 t2 t3 _ ?side1 A3.out).mono ?_); (case side1 => exact G.at hG.out (lc HB.out)); rintro e w9 ⟨v4, rfl, ho0, hb⟩; have n0_ := Aside0.mk (Kd.R_lower ho0 (below_size (lc HB.out))); have n1_ := Aside0.mk (below_step (lc HB.out) hb); clear HB; have HO5 := n0_; have HB := n1_; clear n0_ n1_; (try clear hb); (try clear hb2); (try clear hk); (try clear hi); (try clear ho0)))
    go_ret
    exact ⟨by first | rfl | (simp [errW_none, errW_some] <;> rfl) | (simp [*, errW_none, errW_some] <;> rfl), by exact lc HB.out⟩
end Go.Proofs.YtioofhilohmfbaaGreatDoor.P
end
section
namespace Go.Proofs.YtioofhilohmfbaaGreatDoor.P
open Go.RowKit Go.Proofs.YtioofhilohmfbaaGreatDoorW.PrintWords Go.Proofs.YtioofhilohmfbaaGreatDoorW.PrintLast Go.Proofs.YtioofhilohmfbaaGreatDoorW.PrintMore
attribute [local go_sem] max2_int min2_int max_two min_two max_three min_three max_four min_four
set_option linter.unusedVariables false
set_option linter.unusedSimpArgs false
/-! ### driftnetlaw20_awake: function 12 -/
def driftnetlaw20_awake.f (k : Nat)  : Option (Bool) := (driftnetlaw20_wrong.f k (⟨#[123, 97, 61, 126, 34, 120, 34, 125, 32, 124, 61, 32, 39, 121]⟩ : ByteArray) 12).bind fun t1 => (if t1 = true then ((driftnetlaw20_is.f k (⟨#[114, 97, 116, 101, 40, 123, 97, 33, 61, 34, 120, 92, 34, 34, 125, 91, 53, 109, 93, 41, 32, 62, 61, 32, 49, 46, 53]⟩ : ByteArray) (⟨#[114, 97, 116, 101, 32, 40, 32, 123, 32, 97, 32, 33, 61, 32, 120, 34, 32, 125, 32, 91, 32, 53, 109, 32, 93, 32, 41, 32, 62, 61, 32, 49, 46, 53]⟩ : ByteArray)).bind fun t2 => (if t2 = true then ((driftnetlaw20_wrong.f k (⟨#[53, 75, 66, 32, 53, 120]⟩ : ByteArray) 4).bind fun t3 => (some t3)) else (some false))) else (some false))
theorem driftnetlaw20_awake.mono : ∀ k, LeO (driftnetlaw20_awake.f k ) (driftnetlaw20_awake.f (k + 1) ) := by
  intro  k
  unfold driftnetlaw20_awake.f
  repeat' first
      | (with_reducible exact driftnetlaw20_is.mono _ _ _)
      | (with_reducible exact driftnetlaw20_wrong.mono _ _ _)
      | (with_reducible exact LeO.refl _)
      | (with_reducible exact LeO.none _)
      | (with_reducible refine LeO.ite ?_ ?_)
      | (with_reducible refine LeO.bind ?_ (fun _ => ?_))
      | exact driftnetlaw20_is.mono _ _ _
      | exact driftnetlaw20_wrong.mono _ _ _
      | exact LeO.none _
      | refine LeO.ite ?_ ?_
      | refine LeO.bind ?_ (fun _ => ?_)
set_option maxHeartbeats 8000000 in
set_option maxRecDepth 100000 in
theorem driftnetlaw20_awake.calls (k : Nat)  (r : Bool) (w : World) (hG : Aside0 (G w)) (h : driftnetlaw20_awake.f k  = some r) :
    Calls Tryz.prog 12 #[] w fun e w' => e = .returned (.bool r) ∧ Below w.heap.size w w' := by
  have HB := Aside0.mk (Below.refl w.heap.size w)
  have H : ((driftnetlaw20_wrong.f k (⟨#[123, 97, 61, 126, 34, 120, 34, 125, 32, 124, 61, 32, 39, 121]⟩ : ByteArray) 12).bind fun t1 => (if t1 = true then ((driftnetlaw20_is.f k (⟨#[114, 97, 116, 101, 40, 123, 97, 33, 61, 34, 120, 92, 34, 34, 125, 91, 53, 109, 93, 41, 32, 62, 61, 32, 49, 46, 53]⟩ : ByteArray) (⟨#[114, 97, 116, 101, 32, 40, 32, 123, 32, 97, 32, 33, 61, 32, 120, 34, 32, 125, 32, 91, 32, 53, 109, 32, 93, 32, 41, 32, 62, 61, 32, 49, 46, 53]⟩ : ByteArray)).bind fun t2 => (if t2 = true then ((driftnetlaw20_wrong.f k (⟨#[53, 75, 66, 32, 53, 120]⟩ : ByteArray) 4).bind fun t3 => (some t3)) else (some false))) else (some false))) = some r := h
  clear h
  replace H := Option.bind_eq_some_iff.mp H
  obtain ⟨t1, A10, H⟩ := H
  replace H : (if t1 = true then ((driftnetlaw20_is.f k (⟨#[114, 97, 116, 101, 40, 123, 97, 33, 61, 34, 120, 92, 34, 34, 125, 91, 53, 109, 93, 41, 32, 62, 61, 32, 49, 46, 53]⟩ : ByteArray) (⟨#[114, 97, 116, 101, 32, 40, 32, 123, 32, 97, 32, 33, 61, 32, 120, 34, 32, 125, 32, 91, 32, 53, 109, 32, 93, 32, 41, 32, 62, 61, 32, 49, 46, 53]⟩ : ByteArray)).bind fun t2 => (if t2 = true then ((driftnetlaw20_wrong.f k (⟨#[53, 75, 66, 32, 53, 120]⟩ : ByteArray) 4).bind fun t3 => (some t3)) else (some false))) else (some false)) = some r := H
  have A1 := Aside0.mk A10
  clear A10
  by_cases c2 : t1 = true
  · subst c2
    have H1 : ((driftnetlaw20_is.f k (⟨#[114, 97, 116, 101, 40, 123, 97, 33, 61, 34, 120, 92, 34, 34, 125, 91, 53, 109, 93, 41, 32, 62, 61, 32, 49, 46, 53]⟩ : ByteArray) (⟨#[114, 97, 116, 101, 32, 40, 32, 123, 32, 97, 32, 33, 61, 32, 120, 34, 32, 125, 32, 91, 32, 53, 109, 32, 93, 32, 41, 32, 62, 61, 32, 49, 46, 53]⟩ : ByteArray)).bind fun t2 => (if t2 = true then ((driftnetlaw20_wrong.f k (⟨#[53, 75, 66, 32, 53, 120]⟩ : ByteArray) 4).bind fun t3 => (some t3)) else (some false))) = some r := by rw [if_pos rfl] at H; exact H
    clear H
    have H := H1
    clear H1
    replace H := Option.bind_eq_some_iff.mp H
    obtain ⟨t2, A30, H⟩ := H
    replace H : (if t2 = true then ((driftnetlaw20_wrong.f k (⟨#[53, 75, 66, 32, 53, 120]⟩ : ByteArray) 4).bind fun t3 => (some t3)) else (some false)) = some r := H
    have A3 := Aside0.mk A30
    clear A30
    by_cases c4 : t2 = true
    · subst c4
      have H1 : ((driftnetlaw20_wrong.f k (⟨#[53, 75, 66, 32, 53, 120]⟩ : ByteArray) 4).bind fun t3 => (some t3)) = some r := by rw [if_pos rfl] at H; exact H
      clear H
      have H := H1
      clear H1
      replace H := Option.bind_eq_some_iff.mp H
      obtain ⟨t3, A50, H⟩ := H
      replace H : (some t3) = some r := H
      have A5 := Aside0.mk A50
      clear A50
      obtain rfl := Option.some.inj H
      go_enter Tryz.func12, Tryz.ntmps12
      go_wp2_with (first | (go_at_call 24; (with_reducible refine (driftnetlaw20_wrong.calls k (⟨#[123, 97, 61, 126, 34, 120, 34, 125, 32, 124, 61, 32, 39, 121]⟩ : ByteArray) 12 true _ ?side1 A1.out).mono ?_); (case side1 => exact G.at hG.out (lc HB.out)); rintro e w6 ⟨rfl, hb⟩; have n0_ := Aside0.mk (below_step (lc HB.out) hb); clear HB; have HB := n0_; clear n0_; (try clear hb); (try clear hb2); (try clear hk); (try clear hi)) | (go_at_call 25; (with_reducible refine (driftnetlaw20_is.calls k (⟨#[114, 97, 116, 101, 40, 123, 97, 33, 61, 34, 120, 92, 34, 34, 125, 91, 53, 109, 93, 41, 32, 62, 61, 32, 49, 46, 53]⟩ : ByteArray) (⟨#[114, 97, 116, 101, 32, 40, 32, 123, 32, 97, 32, 33, 61, 32, 120, 34, 32, 125, 32, 91, 32, 53, 109, 32, 93, 32, 41, 32, 62, 61, 32, 49, 46, 53]⟩ : ByteArray) true _ ?side1 A3.out).mono ?_); (case side1 => exact G.at hG.out (lc HB.out)); rintro e w7 ⟨rfl, hb⟩; have n0_ := Aside0.mk (below_step (lc HB.out) hb); clear HB; have HB := n0_; clear n0_; (try clear hb); (try clear hb2); (try clear hk); (try clear hi)) | (go_at_call 24; (with_reducible refine (driftnetlaw20_wrong.calls k (⟨#[53, 75, 66, 32, 53, 120]⟩ : ByteArray) 4 t3 _ ?side1 A5.out).mono ?_); (case side1 => exact G.at hG.out (lc HB.out)); rintro e w8 ⟨rfl, hb⟩; have n0_ := Aside0.mk (below_step (lc HB.out) hb); clear HB; have HB := n0_; clear n0_; (try clear hb); (try clear hb2); (try clear hk); (try clear hi)))
      go_ret
      exact ⟨by first | rfl | (simp [errW_none, errW_some] <;> rfl) | (simp [*, errW_none, errW_some] <;> rfl), by exact lc HB.out⟩
    · replace c4 := Bool.eq_false_iff.mpr c4
      subst c4
      have H1 : (some false) = some r := by rw [if_neg (show ¬ (false = true) by decide)] at H; exact H
      clear H
      have H := H1
      clear H1
      obtain rfl := Option.some.inj H
      go_enter Tryz.func12, Tryz.ntmps12
      go_wp2_with (first | (go_at_call 24; (with_reducible refine (driftnetlaw20_wrong.calls k (⟨#[123, 97, 61, 126, 34, 120, 34, 125, 32, 124, 61, 32, 39, 121]⟩ : ByteArray) 12 true _ ?side1 A1.out).mono ?_); (case side1 => exact G.at hG.out (lc HB.out)); rintro e w9 ⟨rfl, hb⟩; have n0_ := Aside0.mk (below_step (lc HB.out) hb); clear HB; have HB := n0_; clear n0_; (try clear hb); (try clear hb2); (try clear hk); (try clear hi)) | (go_at_call 25; (with_reducible refine (driftnetlaw20_is.calls k (⟨#[114, 97, 116, 101, 40, 123, 97, 33, 61, 34, 120, 92, 34, 34, 125, 91, 53, 109, 93, 41, 32, 62, 61, 32, 49, 46, 53]⟩ : ByteArray) (⟨#[114, 97, 116, 101, 32, 40, 32, 123, 32, 97, 32, 33, 61, 32, 120, 34, 32, 125, 32, 91, 32, 53, 109, 32, 93, 32, 41, 32, 62, 61, 32, 49, 46, 53]⟩ : ByteArray) false _ ?side1 A3.out).mono ?_); (case side1 => exact G.at hG.out (lc HB.out)); rintro e w10 ⟨rfl, hb⟩; have n0_ := Aside0.mk (below_step (lc HB.out) hb); clear HB; have HB := n0_; clear n0_; (try clear hb); (try clear hb2); (try clear hk); (try clear hi)))
      go_ret
      exact ⟨by first | rfl | (simp [errW_none, errW_some] <;> rfl) | (simp [*, errW_none, errW_some] <;> rfl), by exact lc HB.out⟩
  · replace c2 := Bool.eq_false_iff.mpr c2
    subst c2
    have H1 : (some false) = some r := by rw [if_neg (show ¬ (false = true) by decide)] at H; exact H
    clear H
    have H := H1
    clear H1
    obtain rfl := Option.some.inj H
    go_enter Tryz.func12, Tryz.ntmps12
    go_wp2_with (first | (go_at_call 24; (with_reducible refine (driftnetlaw20_wrong.calls k (⟨#[123, 97, 61, 126, 34, 120, 34, 125, 32, 124, 61, 32, 39, 121]⟩ : ByteArray) 12 false _ ?side1 A1.out).mono ?_); (case side1 => exact G.at hG.out (lc HB.out)); rintro e w11 ⟨rfl, hb⟩; have n0_ := Aside0.mk (below_step (lc HB.out) hb); clear HB; have HB := n0_; clear n0_; (try clear hb); (try clear hb2); (try clear hk); (try clear hi)))
    go_ret
    exact ⟨by first | rfl | (simp [errW_none, errW_some] <;> rfl) | (simp [*, errW_none, errW_some] <;> rfl), by exact lc HB.out⟩
end Go.Proofs.YtioofhilohmfbaaGreatDoor.P
end
section
set_option linter.unusedVariables false
namespace Go.Proofs.YtioofhilohmfbaaGreatDoor.P
open Go Go.RowKit Go.Lib Go.Proofs.YtioofhilohmfbaaGreatDoorW.PrintWords Go.Proofs.YtioofhilohmfbaaGreatDoorW.PrintLast Go.Proofs.YtioofhilohmfbaaGreatDoorW.PrintMore Go.Proofs.YtioofhilohmfbaaGreatDoor
def numOk (s : ByteArray) : Prop := s.size ≤ 1099511627776 ∧ asciiL s.data.toList = true ∧ Lib.hasPrefix s.data.toList [45] = false
instance (s : ByteArray) : Decidable (numOk s) := inferInstanceAs (Decidable (_ ∧ _))
def measure_Number.f (a0 : ByteArray) : Option (Bool × List Int × List Int × Int) := if numOk a0 then some (numV a0) else none
theorem measure_Number.calls (a0 : ByteArray) (r1 : Bool) (r2 r3 : List Int) (r4 : Int) (w : World) (hG : Aside0 (G w)) (h : measure_Number.f a0 = some (r1, r2, r3, r4)) :
    Calls Tryz.prog 15 #[.string a0] w fun e w' => ∃ v1_ v2_ : Value, e = .returned (.tuple #[.agg #[.bool r1, v1_, v2_], .int .i64 r4]) ∧ Kd.R (Kd.int .u32) 109 w' w.heap.size (fun k_ => some k_ ≠ v2_.ownBlock) v1_ r2 ∧ Kd.R (Kd.int .u32) 109 w' w.heap.size (fun k_ => some k_ ≠ v1_.ownBlock) v2_ r3 ∧ Below w.heap.size w w' := by
  unfold measure_Number.f at h
  by_cases hc : numOk a0
  case neg => rw [if_neg hc] at h; cases h
  rw [if_pos hc] at h
  have h2 : numV a0 = (r1, r2, r3, r4) := Option.some.inj h
  have := Number_calls a0 hc.1 hc.2.1 hc.2.2 w
  rw [h2] at this
  exact this
end Go.Proofs.YtioofhilohmfbaaGreatDoor.P
end
