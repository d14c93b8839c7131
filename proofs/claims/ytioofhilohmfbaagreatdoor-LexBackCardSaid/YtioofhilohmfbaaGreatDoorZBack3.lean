/- Parts of the proof: the walks and laws that the last text of this claim rests on. No condition beyond each one's own. -/
import Derived.Test.YtioofhilohmfbaaGreatDoorZBack2
set_option linter.unusedVariables false
set_option linter.unusedSimpArgs false
set_option maxRecDepth 100000
set_option maxHeartbeats 8000000
open Go.Proofs Go.Proofs.YtioofhilohmfbaaGreatDoorW
section
open Go.RowKit PrintWords PrintLast PrintMore
namespace Go.Proofs.YtioofhilohmfbaaGreatDoor.P
attribute [local go_sem] za3 za4 zbh zbi zaT zaU za5 za6 zbn
def zaD.l0 : Nat → List Int → List Int → List Int → Int → Int → Int → Option (List Int)
 | 0, _, _, _, _, _, _ => none
 | k + 1, x0, x1, x5, x6, x21, x22 => if x22 < x21 then (if x22 < (x1.length : Int) then (if 0 ≤ x22 then (if x22 < (x0.length : Int) then ((zct.f (rd x0 x22) (rd x1 x22) x6).bind fun bt6 => (if x22 < (x5.length : Int) then (zaD.l0 k x0 x1 (x5.set (x22 : Int).toNat bt6.1) bt6.2 x21 (wrap64 (x22 + 1))) else (none))) else (none)) else (none)) else (if 0 ≤ x22 then (if x22 < (x0.length : Int) then ((zct.f (rd x0 x22) 0 x6).bind fun bt10 => (if x22 < (x5.length : Int) then (zaD.l0 k x0 x1 (x5.set (x22 : Int).toNat bt10.1) bt10.2 x21 (wrap64 (x22 + 1))) else (none))) else (none)) else (none))) else (if 0 ≤ (x0.length : Int) then (if (x0.length : Int) < (x5.length : Int) then ((zaM.f k (x5.set ((x0.length : Int) : Int).toNat x6)).bind fun t14 => (some t14)) else (none)) else (none))
def zaD.g (k : Nat) (l0 : List Int) (l1 : List Int) : Option (List Int) := if 0 ≤ (wrap64 ((l0.length : Int) + 1)) then (if (wrap64 ((l0.length : Int) + 1) : Int).toNat ≤ 70368744177664 then (zaD.l0 k l0 l1 (List.replicate (wrap64 ((l0.length : Int) + 1) : Int).toNat 0) 0 (l0.length : Int) 0) else (none)) else (none)
theorem zaD.zbp : ∀ k, (∀ y0 y1 y2 y3 y4 y5, LeO (zaD.l0 k y0 y1 y2 y3 y4 y5) (zaD.l0 (k + 1) y0 y1 y2 y3 y4 y5))
 | 0 => fun _ _ _ _ _ _ r h => by simp [zaD.l0] at h
 | k + 1 => by
  have ih0 := zaD.zbp k
  ·intro y0 y1 y2 y3 y4 y5
   unfold zaD.l0
   repeat' with_reducible first | exact ih0 _ _ _ _ _ _ | exact zaM.mono _ _ | exact LeO.refl _ | exact LeO.none _ | refine LeO.ite ?_ ?_ | refine LeO.bind ?_ (fun _ => ?_)
theorem zaD.zqm : ∀ a0 a1 k, LeO (zaD.g k a0 a1) (zaD.g (k + 1) a0 a1) := by
 intro a0 a1 k
 have ih0 := zaD.zbp k
 unfold zaD.g
 repeat' with_reducible first | exact ih0 _ _ _ _ _ _ | exact zaM.mono _ _ | exact LeO.refl _ | exact LeO.none _ | refine LeO.ite ?_ ?_ | refine LeO.bind ?_ (fun _ => ?_)
theorem zaD.znJ (k : Nat) (A0 : Option Addr) (c0 : Nat) (l0 : List Int) (A1 : Option Addr) (c1 : Nat) (l1 : List Int) (r : List Int) (w : World) (hr0 : Kd.C (Kd.int .u32) w A0 l0.length l0) (hc0 : l0.length ≤ c0) (hr1 : Kd.C (Kd.int .u32) w A1 l1.length l1) (hc1 : l1.length ≤ c1) (hsw : decide ((l0.length : Int) < (l1.length : Int)) = false) (h : zaD.g k l0 l1 = some r) :
  Calls Tryz.prog 135 #[.slice A0 l0.length c0, .slice A1 l1.length c1] w fun e w' => ∃ v0_ : Value, e = .returned (v0_) ∧ Kd.V (Kd.int .u32) 109 w' w.heap.size (fun k_ => (w.heap.size ≤ k_)) v0_ r ∧ Below w.heap.size w w' := by
 have hsw2 : decide (l0.length < l1.length) = false := by simpa using hsw
 have hsw3 : (l0.length < l1.length) = False := by simpa using hsw
 have HR0 := zaa.mk hr0
 have HC0 := zaa.mk hc0
 clear hr0 hc0
 have HR1 := zaa.mk hr1
 have HC1 := zaa.mk hc1
 clear hr1 hc1
 have HB := zaa.mk (Below.refl w.heap.size w)
 have H : (if 0 ≤ (wrap64 ((l0.length : Int) + 1)) then (if (wrap64 ((l0.length : Int) + 1) : Int).toNat ≤ 70368744177664 then (zaD.l0 k l0 l1 (List.replicate (wrap64 ((l0.length : Int) + 1) : Int).toNat 0) 0 (l0.length : Int) 0) else (none)) else (none)) = some r := h
 clear h
 obtain ⟨ji3, hji3⟩ : ∃ j_ : Int, (wrap64 ((l0.length : Int) + 1)) = j_ := ⟨_, rfl⟩
 replace H : (if 0 ≤ (ji3) then (if (ji3 : Int).toNat ≤ 70368744177664 then (zaD.l0 k l0 l1 (List.replicate (ji3 : Int).toNat 0) 0 (l0.length : Int) 0) else (none)) else (none)) = some r := by first | (rw [hji3] at H; exact H) | (simp only [hji3] at H ⊢; exact H)
 have hji3w : (IntKind.i64.wrap ((l0.length : Int) + 1)) = ji3 := (zbs _).trans hji3
 by_cases c4 : 0 ≤ (ji3)
 ·rw [if_pos c4] at H
  have c4b0 := eq_true c4
  have c4b1 : decide (0 ≤ (ji3)) = true := zDT c4
  clear c4
  by_cases c5 : (ji3 : Int).toNat ≤ 70368744177664
  ·rw [if_pos c5] at H
   have c5b0 := eq_true c5
   have c5b1 : decide ((ji3 : Int).toNat ≤ 70368744177664) = true := zDT c5
   clear c5
   obtain ⟨y1, hy1⟩ : ∃ y_ : List Int, y_ = (List.replicate (ji3 : Int).toNat 0) := ⟨_, rfl⟩
   replace H : (zaD.l0 k l0 l1 y1 0 (l0.length : Int) 0) = some r := by first | (rw [hy1]; with_reducible exact H) | (have H2_ := (Option.bind_some _ _).symm.trans H; rw [hy1]; with_reducible exact H2_) | (have H2_ := (Option.bind_some _ _).symm.trans H; with_reducible exact H2_) | with_reducible exact H | (rw [hy1]; exact H) | exact H
   have Ny1 := zaa.mk hy1
   clear hy1
   have H' := zaa.mk H
   clear H
   go_enter Tryz.func135, Tryz.ntmps135
   go_wp2_with (first | ((with_reducible refine zaA (N := 19) rfl ?_); refine Kd.zeH (Kd.int .u32) _ 109 rfl (N := 19) rfl 39 _ _ rfl ji3 rfl rfl Tryz.underlying39 (.int .u32 0) 4 zcS rfl (by decide) (by omega) 0 (ok := fun _ => True) (okp := fun _ => True) rfl (fun _ hk => hk) trivial (zDO (by first | (with_reducible assumption) | assumption)) (Nat.le_trans (Nat.mul_le_mul_right _ (zDO (by first | (with_reducible assumption) | assumption) : ji3.toNat ≤ 70368744177664)) (by omega)) (Below.refl _ _) (Nat.le_refl _) ?_; intro v2 w6 ho7 hb hg_ hnew_; clear hg_ hnew_; (first | rw [← Ny1.out] at ho7 | (simp only [Int.reduceToNat] at ho7; rw [← Ny1.out] at ho7)); have n0_ := zaa.mk (Kd.zaz (Kd.zfS (M := fun k_ => (w.heap.size ≤ k_)) ho7 (zad (lc HB.out)) (fun k_ h_ => h_)) (zad (lc HB.out))); have n1_ := zaa.mk (zab (lc HB.out) hb); clear HB; have HO3 := n0_; have HB := n1_; clear n0_ n1_; clear hb ho7))
   go_loopg [6, 22] k (fun kq v6 v22 w' => ∃ (x5_1 : List Int) (x6_1 : Int) (x22_1 : Int), v6 = .int .u32 x6_1 ∧ v22 = .int .i64 x22_1 ∧ zaa (zaD.l0 kq l0 l1 x5_1 x6_1 (l0.length : Int) x22_1 = some r) ∧ zaa (kq ≤ k) ∧ zaa (Kd.R (Kd.int .u32) 109 w' w.heap.size (fun k_ => (w.heap.size ≤ k_)) v2 x5_1) ∧ zaa (Below w.heap.size w w'))
   case atStart => exact ⟨(y1), (0), (0), rs, rs, H', ⟨Nat.le_refl _⟩, ⟨by (with_reducible repeat (first | apply Kd.zaQ | apply Kd.zaR | apply Kd.zbb)); exact Kd.za7 HO3.out (fun _ hk => hk.1)⟩, ⟨lb⟩⟩
   case round =>
    clear H'
    try clear c1
    try clear p2
    try clear c4
    try clear c4b0
    try clear c4b1
    try clear c5
    try clear c5b0
    try clear c5b1
    try clear p6
    obtain ⟨x5_1, x6_1, x22_1, rfl, rfl, HA, HK1, HO_5, HB⟩ := hrel
    cases gk with
    | zero => exact absurd HA.out (by simp [zaD.l0])
    | succ k1 =>
     have H := HA.out
     clear HA
     simp only [zaD.l0] at H
     by_cases c8 : x22_1 < (l0.length : Int)
     ·rw [if_pos c8] at H
      have c8b0 : decide (x22_1 < (l0.length : Int)) = true := zDT c8
      clear c8
      by_cases c9 : x22_1 < (l1.length : Int)
      ·rw [if_pos c9] at H
       have c9b0 : decide (x22_1 < (l1.length : Int)) = true := zDT c9
       clear c9
       by_cases c10 : 0 ≤ x22_1
       ·rw [if_pos c10] at H
        have c10b0 : decide (0 ≤ x22_1) = true := zDT c10
        clear c10
        by_cases c11 : x22_1 < (l0.length : Int)
        ·rw [if_pos c11] at H
         have c11b0 : decide (x22_1 < (l0.length : Int)) = true := zDT c11
         clear c11
         replace H := zBE H
         obtain ⟨⟨t6, t7⟩, A120, H⟩ := H
         replace H : (if x22_1 < (x5_1.length : Int) then (zaD.l0 k1 l0 l1 (x5_1.set (x22_1 : Int).toNat t6) t7 (l0.length : Int) (wrap64 (x22_1 + 1))) else (none)) = some r := H
         have A12 := zaa.mk A120
         clear A120
         by_cases c13 : x22_1 < (x5_1.length : Int)
         ·rw [if_pos c13] at H
          have c13b0 : decide (x22_1 < (x5_1.length : Int)) = true := zDT c13
          clear c13
          obtain ⟨y8, hy8⟩ : ∃ y_ : List Int, y_ = (x5_1.set (x22_1 : Int).toNat t6) := ⟨_, rfl⟩
          replace H : (zaD.l0 k1 l0 l1 y8 t7 (l0.length : Int) (wrap64 (x22_1 + 1))) = some r := by first | (rw [hy8]; with_reducible exact H) | (have H2_ := (Option.bind_some _ _).symm.trans H; rw [hy8]; with_reducible exact H2_) | (have H2_ := (Option.bind_some _ _).symm.trans H; with_reducible exact H2_) | with_reducible exact H | (rw [hy8]; exact H) | exact H
          have Ny8 := zaa.mk hy8
          clear hy8
          have H' := zaa.mk H
          clear H
          have p4 : 0 ≤ (x22_1 : Int) := zDO (by first | (with_reducible assumption) | assumption)
          have q4 : x22_1 < (l1.length : Int) := zDO (by first | (with_reducible assumption) | assumption)
          obtain ⟨ad4, e4, hx4_0⟩ := Kd.zbT HR1.out x22_1 p4 q4
          cases e4
          replace hx4_0 := (HB.out.cell (World.block_lt_of_cell? w _ hx4_0)).trans hx4_0
          replace p4 := eq_true p4
          replace q4 := eq_true q4
          have p5 : 0 ≤ (x22_1 : Int) := zDO (by first | (with_reducible assumption) | assumption)
          have q5 : x22_1 < (l0.length : Int) := zDO (by first | (with_reducible assumption) | assumption)
          obtain ⟨ad5, e5, hx5_0⟩ := Kd.zbT HR0.out x22_1 p5 q5
          cases e5
          replace hx5_0 := (HB.out.cell (World.block_lt_of_cell? w _ hx5_0)).trans hx5_0
          replace p5 := eq_true p5
          replace q5 := eq_true q5
          go_wp2_with (first | (go_at_call 166; (with_reducible refine (zct.calls (rd l0 x22_1) (rd l1 x22_1) x6_1 t6 t7 _ A12.out).mono ?_); rintro e w' ⟨rfl, ⟨nd, rfl⟩⟩; (try (rw [zcC wr]; generalize hq_ : World.drewN wr _ = wr; have n0_ : zaa (Kd.R (Kd.int .u32) 109 wr w.heap.size (fun k_ => (w.heap.size ≤ k_)) v2 x5_1) := ⟨by rw [← hq_]; exact (rc HO_5.out)⟩; have n1_ : zaa (Below w.heap.size w wr) := ⟨by rw [← hq_]; exact (lc HB.out)⟩; clear HO_5 HB hq_; have HO_5 := n0_; have HB := n1_; clear n0_ n1_)); have p14 : 0 ≤ (x22_1 : Int) := zDO (by first | (with_reducible assumption) | assumption); have q14 : (x22_1 : Int) < ((x5_1.length : Int) : Int) := zDO (by first | (with_reducible assumption) | assumption); obtain ⟨go14, co14, eo14, gb14, gl14, cl14, HG14⟩ := Kd.zc4 HO_5.out (by omega); (first | cases eo14 | (injection eo14 with ea_ en_ ec_; (first | subst ea_ | (injection ea_ with ea_; subst ea_)); subst ec_; clear en_)); have GB14 := zaa.mk gb14; have GG14 := zaa.mk HG14; clear gb14 gl14 HG14; obtain ⟨hx14_0, hf14_0⟩ := Kd.zbK 0 HO_5.out (x22_1 : Int) p14 q14; replace p14 := eq_true p14; replace q14 := eq_true q14; obtain ⟨hy15_, hz15_⟩ := Kd.zbK 0 HO_5.out (x22_1 : Int) (zDO (by first | (with_reducible assumption) | assumption)) (zDO (by first | (with_reducible assumption) | assumption)); have HP15 := Kd.zde HO_5.out (x22_1 : Int) t6) | ((with_reducible refine zbX (t := 109) (p := 45) rfl ?_); refine zbQ (t := 109) (p := 45) (v := ?vo_w16) (w1 := (wr.setCell ⟨go14, (x22_1 : Int).toNat, none⟩ (.int .u32 t6))) ?hg ?ho ?hn ?hr ?_; (case ho => rfl); (case hg => rfl); (case hn => rfl); (case hr => first | (go_simp; done) | (go_simp; rfl)); intro w16 hw; have hg : wr.grownBy w16 (some go14) := (by rw [hw]; exact HP15.2); have hp_ : Kd.R (Kd.int .u32) 109 w16 w.heap.size (fun k_ => (w.heap.size ≤ k_)) (.slice (some ⟨go14, 0, none⟩) x5_1.length co14) y8 := (by rw [hw, Ny8.out]; exact HP15.1); clear HP15; have n0_ := zaa.mk (hp_); have n1_ := zaa.mk ((by rw [hw]; exact zbo (HB.out) GB14.out : Below w.heap.size w w16)); clear HO_5; clear HB; have HO_5 := n0_; have HB := n1_; clear n0_ n1_; clear hg hw hp_))
          go_roundg k1
          case measure => have := HK1.out; omega
          case rel => exact ⟨(y8), (t7), (wrap64 (x22_1 + 1)), rs, rs, H', ⟨by have := HK1.out; omega⟩, ⟨by (with_reducible repeat (first | apply Kd.zaQ | apply Kd.zaR | apply Kd.zbb)); exact HO_5.out⟩, ⟨lb⟩⟩
         ·rw [if_neg c13] at H
          exact absurd H (by simp)
        ·rw [if_neg c11] at H
         exact absurd H (by simp)
       ·rw [if_neg c10] at H
        exact absurd H (by simp)
      ·rw [if_neg c9] at H
       have c9b0 : decide (x22_1 < (l1.length : Int)) = false := zDF c9
       clear c9
       by_cases c17 : 0 ≤ x22_1
       ·rw [if_pos c17] at H
        have c17b0 : decide (0 ≤ x22_1) = true := zDT c17
        clear c17
        by_cases c18 : x22_1 < (l0.length : Int)
        ·rw [if_pos c18] at H
         have c18b0 : decide (x22_1 < (l0.length : Int)) = true := zDT c18
         clear c18
         replace H := zBE H
         obtain ⟨⟨t10, t11⟩, A190, H⟩ := H
         replace H : (if x22_1 < (x5_1.length : Int) then (zaD.l0 k1 l0 l1 (x5_1.set (x22_1 : Int).toNat t10) t11 (l0.length : Int) (wrap64 (x22_1 + 1))) else (none)) = some r := H
         have A19 := zaa.mk A190
         clear A190
         by_cases c20 : x22_1 < (x5_1.length : Int)
         ·rw [if_pos c20] at H
          have c20b0 : decide (x22_1 < (x5_1.length : Int)) = true := zDT c20
          clear c20
          obtain ⟨y12, hy12⟩ : ∃ y_ : List Int, y_ = (x5_1.set (x22_1 : Int).toNat t10) := ⟨_, rfl⟩
          replace H : (zaD.l0 k1 l0 l1 y12 t11 (l0.length : Int) (wrap64 (x22_1 + 1))) = some r := by first | (rw [hy12]; with_reducible exact H) | (have H2_ := (Option.bind_some _ _).symm.trans H; rw [hy12]; with_reducible exact H2_) | (have H2_ := (Option.bind_some _ _).symm.trans H; with_reducible exact H2_) | with_reducible exact H | (rw [hy12]; exact H) | exact H
          have Ny12 := zaa.mk hy12
          clear hy12
          have H' := zaa.mk H
          clear H
          have p9 : 0 ≤ (x22_1 : Int) := zDO (by first | (with_reducible assumption) | assumption)
          have q9 : x22_1 < (l0.length : Int) := zDO (by first | (with_reducible assumption) | assumption)
          obtain ⟨ad9, e9, hx9_0⟩ := Kd.zbT HR0.out x22_1 p9 q9
          cases e9
          replace hx9_0 := (HB.out.cell (World.block_lt_of_cell? w _ hx9_0)).trans hx9_0
          replace p9 := eq_true p9
          replace q9 := eq_true q9
          go_wp2_with (first | (go_at_call 166; (with_reducible refine (zct.calls (rd l0 x22_1) 0 x6_1 t10 t11 _ A19.out).mono ?_); rintro e w' ⟨rfl, ⟨nd, rfl⟩⟩; (try (rw [zcC wr]; generalize hq_ : World.drewN wr _ = wr; have n0_ : zaa (Kd.R (Kd.int .u32) 109 wr w.heap.size (fun k_ => (w.heap.size ≤ k_)) v2 x5_1) := ⟨by rw [← hq_]; exact (rc HO_5.out)⟩; have n1_ : zaa (Below w.heap.size w wr) := ⟨by rw [← hq_]; exact (lc HB.out)⟩; clear HO_5 HB hq_; have HO_5 := n0_; have HB := n1_; clear n0_ n1_)); have p21 : 0 ≤ (x22_1 : Int) := zDO (by first | (with_reducible assumption) | assumption); have q21 : (x22_1 : Int) < ((x5_1.length : Int) : Int) := zDO (by first | (with_reducible assumption) | assumption); obtain ⟨go21, co21, eo21, gb21, gl21, cl21, HG21⟩ := Kd.zc4 HO_5.out (by omega); (first | cases eo21 | (injection eo21 with ea_ en_ ec_; (first | subst ea_ | (injection ea_ with ea_; subst ea_)); subst ec_; clear en_)); have GB21 := zaa.mk gb21; have GG21 := zaa.mk HG21; clear gb21 gl21 HG21; obtain ⟨hx21_0, hf21_0⟩ := Kd.zbK 0 HO_5.out (x22_1 : Int) p21 q21; replace p21 := eq_true p21; replace q21 := eq_true q21; obtain ⟨hy22_, hz22_⟩ := Kd.zbK 0 HO_5.out (x22_1 : Int) (zDO (by first | (with_reducible assumption) | assumption)) (zDO (by first | (with_reducible assumption) | assumption)); have HP22 := Kd.zde HO_5.out (x22_1 : Int) t10) | ((with_reducible refine zbX (t := 109) (p := 45) rfl ?_); refine zbQ (t := 109) (p := 45) (v := ?vo_w23) (w1 := (wr.setCell ⟨go21, (x22_1 : Int).toNat, none⟩ (.int .u32 t10))) ?hg ?ho ?hn ?hr ?_; (case ho => rfl); (case hg => rfl); (case hn => rfl); (case hr => first | (go_simp; done) | (go_simp; rfl)); intro w23 hw; have hg : wr.grownBy w23 (some go21) := (by rw [hw]; exact HP22.2); have hp_ : Kd.R (Kd.int .u32) 109 w23 w.heap.size (fun k_ => (w.heap.size ≤ k_)) (.slice (some ⟨go21, 0, none⟩) x5_1.length co21) y12 := (by rw [hw, Ny12.out]; exact HP22.1); clear HP22; have n0_ := zaa.mk (hp_); have n1_ := zaa.mk ((by rw [hw]; exact zbo (HB.out) GB21.out : Below w.heap.size w w23)); clear HO_5; clear HB; have HO_5 := n0_; have HB := n1_; clear n0_ n1_; clear hg hw hp_))
          go_roundg k1
          case measure => have := HK1.out; omega
          case rel => exact ⟨(y12), (t11), (wrap64 (x22_1 + 1)), rs, rs, H', ⟨by have := HK1.out; omega⟩, ⟨by (with_reducible repeat (first | apply Kd.zaQ | apply Kd.zaR | apply Kd.zbb)); exact HO_5.out⟩, ⟨lb⟩⟩
         ·rw [if_neg c20] at H
          exact absurd H (by simp)
        ·rw [if_neg c18] at H
         exact absurd H (by simp)
       ·rw [if_neg c17] at H
        exact absurd H (by simp)
     ·rw [if_neg c8] at H
      have c8b0 : decide (x22_1 < (l0.length : Int)) = false := zDF c8
      clear c8
      by_cases c24 : 0 ≤ (l0.length : Int)
      ·rw [if_pos c24] at H
       have c24b0 : decide (0 ≤ (l0.length : Int)) = true := zDT c24
       have c24b1 : decide (0 ≤ l0.length) = true := decide_eq_true (by omega)
       clear c24
       by_cases c25 : (l0.length : Int) < (x5_1.length : Int)
       ·rw [if_pos c25] at H
        have c25b0 : decide ((l0.length : Int) < (x5_1.length : Int)) = true := zDT c25
        have c25b1 : decide (l0.length < x5_1.length) = true := decide_eq_true (Int.ofNat_lt.mp c25)
        clear c25
        obtain ⟨y13, hy13⟩ : ∃ y_ : List Int, y_ = (x5_1.set ((l0.length : Int) : Int).toNat x6_1) := ⟨_, rfl⟩
        replace H : ((zaM.f k1 y13).bind fun t14 => (some t14)) = some r := by first | (rw [hy13]; with_reducible exact H) | (have H2_ := (Option.bind_some _ _).symm.trans H; rw [hy13]; with_reducible exact H2_) | (have H2_ := (Option.bind_some _ _).symm.trans H; with_reducible exact H2_) | with_reducible exact H | (rw [hy13]; exact H) | exact H
        have Ny13 := zaa.mk hy13
        clear hy13
        replace H := zBE H
        obtain ⟨t14, A270, H⟩ := H
        replace H : (some t14) = some r := H
        have A27 := zaa.mk A270
        clear A270
        obtain rfl := Option.some.inj H
        have p26 : 0 ≤ ((l0.length : Int) : Int) := zDO (by first | (with_reducible assumption) | assumption)
        have q26 : ((l0.length : Int) : Int) < ((x5_1.length : Int) : Int) := zDO (by first | (with_reducible assumption) | assumption)
        obtain ⟨go26, co26, eo26, gb26, gl26, cl26, HG26⟩ := Kd.zc4 HO_5.out (by omega)
        (first | cases eo26 | (injection eo26 with ea_ en_ ec_; (first | subst ea_ | (injection ea_ with ea_; subst ea_)); subst ec_; clear en_))
        have GB26 := zaa.mk gb26
        have GG26 := zaa.mk HG26
        clear gb26 gl26 HG26
        obtain ⟨hx26_0, hf26_0⟩ := Kd.zbK 0 HO_5.out ((l0.length : Int) : Int) p26 q26
        have hx26n := hx26_0
        have hf26n := hf26_0
        simp only [Int.toNat_natCast] at hx26n hf26n
        replace p26 := eq_true p26
        replace q26 := eq_true q26
        have HP28 := Kd.zde HO_5.out ((l0.length : Int) : Int) x6_1
        go_wp2_with (first | ((with_reducible refine zbX (t := 109) (p := 51) rfl ?_); refine zbQ (t := 109) (p := 51) (v := ?vo_w29) (w1 := (wr.setCell ⟨go26, ((l0.length : Int) : Int).toNat, none⟩ (.int .u32 x6_1))) ?hg ?ho ?hn ?hr ?_; (case ho => rfl); (case hg => rfl); (case hn => rfl); (case hr => first | (go_simp; done) | (go_simp; rfl)); intro w29 hw; have hg : wr.grownBy w29 (some go26) := (by rw [hw]; exact HP28.2); have hp_ : Kd.R (Kd.int .u32) 109 w29 w.heap.size (fun k_ => (w.heap.size ≤ k_)) (.slice (some ⟨go26, 0, none⟩) x5_1.length co26) y13 := (by rw [hw, Ny13.out]; exact HP28.1); clear HP28; have n0_ := zaa.mk (hp_); have n1_ := zaa.mk ((by rw [hw]; exact zbo (HB.out) GB26.out : Below w.heap.size w w29)); clear HO_5; clear HB; have HO_5 := n0_; have HB := n1_; clear n0_ n1_; clear hg hw hp_) | ((with_reducible refine zcL (f := 167) rfl ?_); refine zgC (some 53) rfl rfl Tryz.func167 (by kernel_rfl) rfl #[.slice (some ⟨go26, 0, none⟩) y13.length co26] rfl (by (try simp only [List.map_toArray, List.map_cons, List.map_nil]); first | done | (rw [show y13.length = x5_1.length from (Kd.zax HO_5.out).1.symm] <;> rfl) | rfl | (simp only [List.length_drop, List.length_take]; rfl)) ?_; (with_reducible refine (zaM.calls k1 (fun k_ => some k_ = (.slice (some ⟨go26, 0, none⟩) x5_1.length co26 : Value).ownBlock) _ _ y13 t14 _ ?side1 A27.out).mono ?_); (case side1 => rw [show y13.length = x5_1.length from (Kd.zax HO_5.out).1.symm]; exact Kd.R_V (Kd.zel rfl (HO_5.out))); rintro e w30 ⟨v15, rfl, ho0, hb⟩; refine ⟨_, rfl, ?_⟩; have n0_ := zaa.mk (Kd.zaS (rc HO_5.out) hb); have n1_ := zaa.mk (Kd.zbU (Kd.zbH (ok' := fun k_ => (w.heap.size ≤ k_)) ho0 (fun k_ hk_ => Or.elim hk_ (fun hs_ => ((HO_5.out).1 k_ hs_.symm)) (fun hn_ => (Nat.le_trans (zad (lc HB.out)) hn_)))) (zad (lc HB.out))); have n2_ := zaa.mk (zab (lc HB.out) hb); clear HO_5; clear HB; have HO_5 := n0_; have HO16 := n1_; have HB := n2_; clear n0_ n1_ n2_; (try clear hb); (try clear hb2); (try clear hk); (try clear hi); (try clear ho0)))
        go_ret
        exact ⟨_, by first | rfl | (simp [zaf, zag] <;> rfl) | (simp only [← hji3]; first | rfl | (simp [zaf, zag] <;> rfl)) | (simp [*, zaf, zag] <;> rfl), by (with_reducible repeat (first | apply Kd.zaZ | apply Kd.zbr | apply Kd.zbI)); exact HO16.out, lb⟩
       ·rw [if_neg c25] at H
        exact absurd H (by simp)
      ·rw [if_neg c24] at H
       exact absurd H (by simp)
  ·rw [if_neg c5] at H
   exact absurd H (by simp)
 ·rw [if_neg c4] at H
  exact absurd H (by simp)
theorem zaD.znK (k : Nat) (A0 : Option Addr) (c0 : Nat) (l0 : List Int) (A1 : Option Addr) (c1 : Nat) (l1 : List Int) (r : List Int) (w : World) (hr0 : Kd.C (Kd.int .u32) w A0 l0.length l0) (hc0 : l0.length ≤ c0) (hr1 : Kd.C (Kd.int .u32) w A1 l1.length l1) (hc1 : l1.length ≤ c1) (hsw : decide ((l0.length : Int) < (l1.length : Int)) = true) (h : zaD.g k l1 l0 = some r) :
  Calls Tryz.prog 135 #[.slice A0 l0.length c0, .slice A1 l1.length c1] w fun e w' => ∃ v0_ : Value, e = .returned (v0_) ∧ Kd.V (Kd.int .u32) 109 w' w.heap.size (fun k_ => (w.heap.size ≤ k_)) v0_ r ∧ Below w.heap.size w w' := by
 have hsw2 : decide (l0.length < l1.length) = true := by simpa using hsw
 have hsw3 : (l0.length < l1.length) = True := by simpa using hsw
 have HR1 := zaa.mk hr1
 have HC1 := zaa.mk hc1
 clear hr1 hc1
 have HR0 := zaa.mk hr0
 have HC0 := zaa.mk hc0
 clear hr0 hc0
 have HB := zaa.mk (Below.refl w.heap.size w)
 have H : (if 0 ≤ (wrap64 ((l1.length : Int) + 1)) then (if (wrap64 ((l1.length : Int) + 1) : Int).toNat ≤ 70368744177664 then (zaD.l0 k l1 l0 (List.replicate (wrap64 ((l1.length : Int) + 1) : Int).toNat 0) 0 (l1.length : Int) 0) else (none)) else (none)) = some r := h
 clear h
 obtain ⟨ji3, hji3⟩ : ∃ j_ : Int, (wrap64 ((l1.length : Int) + 1)) = j_ := ⟨_, rfl⟩
 replace H : (if 0 ≤ (ji3) then (if (ji3 : Int).toNat ≤ 70368744177664 then (zaD.l0 k l1 l0 (List.replicate (ji3 : Int).toNat 0) 0 (l1.length : Int) 0) else (none)) else (none)) = some r := by first | (rw [hji3] at H; exact H) | (simp only [hji3] at H ⊢; exact H)
 have hji3w : (IntKind.i64.wrap ((l1.length : Int) + 1)) = ji3 := (zbs _).trans hji3
 by_cases c4 : 0 ≤ (ji3)
 ·rw [if_pos c4] at H
  have c4b0 := eq_true c4
  have c4b1 : decide (0 ≤ (ji3)) = true := zDT c4
  clear c4
  by_cases c5 : (ji3 : Int).toNat ≤ 70368744177664
  ·rw [if_pos c5] at H
   have c5b0 := eq_true c5
   have c5b1 : decide ((ji3 : Int).toNat ≤ 70368744177664) = true := zDT c5
   clear c5
   obtain ⟨y1, hy1⟩ : ∃ y_ : List Int, y_ = (List.replicate (ji3 : Int).toNat 0) := ⟨_, rfl⟩
   replace H : (zaD.l0 k l1 l0 y1 0 (l1.length : Int) 0) = some r := by first | (rw [hy1]; with_reducible exact H) | (have H2_ := (Option.bind_some _ _).symm.trans H; rw [hy1]; with_reducible exact H2_) | (have H2_ := (Option.bind_some _ _).symm.trans H; with_reducible exact H2_) | with_reducible exact H | (rw [hy1]; exact H) | exact H
   have Ny1 := zaa.mk hy1
   clear hy1
   have H' := zaa.mk H
   clear H
   go_enter Tryz.func135, Tryz.ntmps135
   go_wp2_with (first | ((with_reducible refine zaA (N := 19) rfl ?_); refine Kd.zeH (Kd.int .u32) _ 109 rfl (N := 19) rfl 39 _ _ rfl ji3 rfl rfl Tryz.underlying39 (.int .u32 0) 4 zcS rfl (by decide) (by omega) 0 (ok := fun _ => True) (okp := fun _ => True) rfl (fun _ hk => hk) trivial (zDO (by first | (with_reducible assumption) | assumption)) (Nat.le_trans (Nat.mul_le_mul_right _ (zDO (by first | (with_reducible assumption) | assumption) : ji3.toNat ≤ 70368744177664)) (by omega)) (Below.refl _ _) (Nat.le_refl _) ?_; intro v2 w6 ho7 hb hg_ hnew_; clear hg_ hnew_; (first | rw [← Ny1.out] at ho7 | (simp only [Int.reduceToNat] at ho7; rw [← Ny1.out] at ho7)); have n0_ := zaa.mk (Kd.zaz (Kd.zfS (M := fun k_ => (w.heap.size ≤ k_)) ho7 (zad (lc HB.out)) (fun k_ h_ => h_)) (zad (lc HB.out))); have n1_ := zaa.mk (zab (lc HB.out) hb); clear HB; have HO3 := n0_; have HB := n1_; clear n0_ n1_; clear hb ho7))
   go_loopg [6, 22] k (fun kq v6 v22 w' => ∃ (x5_1 : List Int) (x6_1 : Int) (x22_1 : Int), v6 = .int .u32 x6_1 ∧ v22 = .int .i64 x22_1 ∧ zaa (zaD.l0 kq l1 l0 x5_1 x6_1 (l1.length : Int) x22_1 = some r) ∧ zaa (kq ≤ k) ∧ zaa (Kd.R (Kd.int .u32) 109 w' w.heap.size (fun k_ => (w.heap.size ≤ k_)) v2 x5_1) ∧ zaa (Below w.heap.size w w'))
   case atStart => exact ⟨(y1), (0), (0), rs, rs, H', ⟨Nat.le_refl _⟩, ⟨by (with_reducible repeat (first | apply Kd.zaQ | apply Kd.zaR | apply Kd.zbb)); exact Kd.za7 HO3.out (fun _ hk => hk.1)⟩, ⟨lb⟩⟩
   case round =>
    clear H'
    try clear c0
    try clear p2
    try clear c4
    try clear c4b0
    try clear c4b1
    try clear c5
    try clear c5b0
    try clear c5b1
    try clear p6
    obtain ⟨x5_1, x6_1, x22_1, rfl, rfl, HA, HK1, HO_5, HB⟩ := hrel
    cases gk with
    | zero => exact absurd HA.out (by simp [zaD.l0])
    | succ k1 =>
     have H := HA.out
     clear HA
     simp only [zaD.l0] at H
     by_cases c8 : x22_1 < (l1.length : Int)
     ·rw [if_pos c8] at H
      have c8b0 : decide (x22_1 < (l1.length : Int)) = true := zDT c8
      clear c8
      by_cases c9 : x22_1 < (l0.length : Int)
      ·rw [if_pos c9] at H
       have c9b0 : decide (x22_1 < (l0.length : Int)) = true := zDT c9
       clear c9
       by_cases c10 : 0 ≤ x22_1
       ·rw [if_pos c10] at H
        have c10b0 : decide (0 ≤ x22_1) = true := zDT c10
        clear c10
        by_cases c11 : x22_1 < (l1.length : Int)
        ·rw [if_pos c11] at H
         have c11b0 : decide (x22_1 < (l1.length : Int)) = true := zDT c11
         clear c11
         replace H := zBE H
         obtain ⟨⟨t6, t7⟩, A120, H⟩ := H
         replace H : (if x22_1 < (x5_1.length : Int) then (zaD.l0 k1 l1 l0 (x5_1.set (x22_1 : Int).toNat t6) t7 (l1.length : Int) (wrap64 (x22_1 + 1))) else (none)) = some r := H
         have A12 := zaa.mk A120
         clear A120
         by_cases c13 : x22_1 < (x5_1.length : Int)
         ·rw [if_pos c13] at H
          have c13b0 : decide (x22_1 < (x5_1.length : Int)) = true := zDT c13
          clear c13
          obtain ⟨y8, hy8⟩ : ∃ y_ : List Int, y_ = (x5_1.set (x22_1 : Int).toNat t6) := ⟨_, rfl⟩
          replace H : (zaD.l0 k1 l1 l0 y8 t7 (l1.length : Int) (wrap64 (x22_1 + 1))) = some r := by first | (rw [hy8]; with_reducible exact H) | (have H2_ := (Option.bind_some _ _).symm.trans H; rw [hy8]; with_reducible exact H2_) | (have H2_ := (Option.bind_some _ _).symm.trans H; with_reducible exact H2_) | with_reducible exact H | (rw [hy8]; exact H) | exact H
          have Ny8 := zaa.mk hy8
          clear hy8
          have H' := zaa.mk H
          clear H
          have p4 : 0 ≤ (x22_1 : Int) := zDO (by first | (with_reducible assumption) | assumption)
          have q4 : x22_1 < (l0.length : Int) := zDO (by first | (with_reducible assumption) | assumption)
          obtain ⟨ad4, e4, hx4_0⟩ := Kd.zbT HR0.out x22_1 p4 q4
          cases e4
          replace hx4_0 := (HB.out.cell (World.block_lt_of_cell? w _ hx4_0)).trans hx4_0
          replace p4 := eq_true p4
          replace q4 := eq_true q4
          have p5 : 0 ≤ (x22_1 : Int) := zDO (by first | (with_reducible assumption) | assumption)
          have q5 : x22_1 < (l1.length : Int) := zDO (by first | (with_reducible assumption) | assumption)
          obtain ⟨ad5, e5, hx5_0⟩ := Kd.zbT HR1.out x22_1 p5 q5
          cases e5
          replace hx5_0 := (HB.out.cell (World.block_lt_of_cell? w _ hx5_0)).trans hx5_0
          replace p5 := eq_true p5
          replace q5 := eq_true q5
          go_wp2_with (first | (go_at_call 166; (with_reducible refine (zct.calls (rd l1 x22_1) (rd l0 x22_1) x6_1 t6 t7 _ A12.out).mono ?_); rintro e w' ⟨rfl, ⟨nd, rfl⟩⟩; (try (rw [zcC wr]; generalize hq_ : World.drewN wr _ = wr; have n0_ : zaa (Kd.R (Kd.int .u32) 109 wr w.heap.size (fun k_ => (w.heap.size ≤ k_)) v2 x5_1) := ⟨by rw [← hq_]; exact (rc HO_5.out)⟩; have n1_ : zaa (Below w.heap.size w wr) := ⟨by rw [← hq_]; exact (lc HB.out)⟩; clear HO_5 HB hq_; have HO_5 := n0_; have HB := n1_; clear n0_ n1_)); have p14 : 0 ≤ (x22_1 : Int) := zDO (by first | (with_reducible assumption) | assumption); have q14 : (x22_1 : Int) < ((x5_1.length : Int) : Int) := zDO (by first | (with_reducible assumption) | assumption); obtain ⟨go14, co14, eo14, gb14, gl14, cl14, HG14⟩ := Kd.zc4 HO_5.out (by omega); (first | cases eo14 | (injection eo14 with ea_ en_ ec_; (first | subst ea_ | (injection ea_ with ea_; subst ea_)); subst ec_; clear en_)); have GB14 := zaa.mk gb14; have GG14 := zaa.mk HG14; clear gb14 gl14 HG14; obtain ⟨hx14_0, hf14_0⟩ := Kd.zbK 0 HO_5.out (x22_1 : Int) p14 q14; replace p14 := eq_true p14; replace q14 := eq_true q14; obtain ⟨hy15_, hz15_⟩ := Kd.zbK 0 HO_5.out (x22_1 : Int) (zDO (by first | (with_reducible assumption) | assumption)) (zDO (by first | (with_reducible assumption) | assumption)); have HP15 := Kd.zde HO_5.out (x22_1 : Int) t6) | ((with_reducible refine zbX (t := 109) (p := 45) rfl ?_); refine zbQ (t := 109) (p := 45) (v := ?vo_w16) (w1 := (wr.setCell ⟨go14, (x22_1 : Int).toNat, none⟩ (.int .u32 t6))) ?hg ?ho ?hn ?hr ?_; (case ho => rfl); (case hg => rfl); (case hn => rfl); (case hr => first | (go_simp; done) | (go_simp; rfl)); intro w16 hw; have hg : wr.grownBy w16 (some go14) := (by rw [hw]; exact HP15.2); have hp_ : Kd.R (Kd.int .u32) 109 w16 w.heap.size (fun k_ => (w.heap.size ≤ k_)) (.slice (some ⟨go14, 0, none⟩) x5_1.length co14) y8 := (by rw [hw, Ny8.out]; exact HP15.1); clear HP15; have n0_ := zaa.mk (hp_); have n1_ := zaa.mk ((by rw [hw]; exact zbo (HB.out) GB14.out : Below w.heap.size w w16)); clear HO_5; clear HB; have HO_5 := n0_; have HB := n1_; clear n0_ n1_; clear hg hw hp_))
          go_roundg k1
          case measure => have := HK1.out; omega
          case rel => exact ⟨(y8), (t7), (wrap64 (x22_1 + 1)), rs, rs, H', ⟨by have := HK1.out; omega⟩, ⟨by (with_reducible repeat (first | apply Kd.zaQ | apply Kd.zaR | apply Kd.zbb)); exact HO_5.out⟩, ⟨lb⟩⟩
         ·rw [if_neg c13] at H
          exact absurd H (by simp)
        ·rw [if_neg c11] at H
         exact absurd H (by simp)
       ·rw [if_neg c10] at H
        exact absurd H (by simp)
      ·rw [if_neg c9] at H
       have c9b0 : decide (x22_1 < (l0.length : Int)) = false := zDF c9
       clear c9
       by_cases c17 : 0 ≤ x22_1
       ·rw [if_pos c17] at H
        have c17b0 : decide (0 ≤ x22_1) = true := zDT c17
        clear c17
        by_cases c18 : x22_1 < (l1.length : Int)
        ·rw [if_pos c18] at H
         have c18b0 : decide (x22_1 < (l1.length : Int)) = true := zDT c18
         clear c18
         replace H := zBE H
         obtain ⟨⟨t10, t11⟩, A190, H⟩ := H
         replace H : (if x22_1 < (x5_1.length : Int) then (zaD.l0 k1 l1 l0 (x5_1.set (x22_1 : Int).toNat t10) t11 (l1.length : Int) (wrap64 (x22_1 + 1))) else (none)) = some r := H
         have A19 := zaa.mk A190
         clear A190
         by_cases c20 : x22_1 < (x5_1.length : Int)
         ·rw [if_pos c20] at H
          have c20b0 : decide (x22_1 < (x5_1.length : Int)) = true := zDT c20
          clear c20
          obtain ⟨y12, hy12⟩ : ∃ y_ : List Int, y_ = (x5_1.set (x22_1 : Int).toNat t10) := ⟨_, rfl⟩
          replace H : (zaD.l0 k1 l1 l0 y12 t11 (l1.length : Int) (wrap64 (x22_1 + 1))) = some r := by first | (rw [hy12]; with_reducible exact H) | (have H2_ := (Option.bind_some _ _).symm.trans H; rw [hy12]; with_reducible exact H2_) | (have H2_ := (Option.bind_some _ _).symm.trans H; with_reducible exact H2_) | with_reducible exact H | (rw [hy12]; exact H) | exact H
          have Ny12 := zaa.mk hy12
          clear hy12
          have H' := zaa.mk H
          clear H
          have p9 : 0 ≤ (x22_1 : Int) := zDO (by first | (with_reducible assumption) | assumption)
          have q9 : x22_1 < (l1.length : Int) := zDO (by first | (with_reducible assumption) | assumption)
          obtain ⟨ad9, e9, hx9_0⟩ := Kd.zbT HR1.out x22_1 p9 q9
          cases e9
          replace hx9_0 := (HB.out.cell (World.block_lt_of_cell? w _ hx9_0)).trans hx9_0
          replace p9 := eq_true p9
          replace q9 := eq_true q9
          go_wp2_with (first | (go_at_call 166; (with_reducible refine (zct.calls (rd l1 x22_1) 0 x6_1 t10 t11 _ A19.out).mono ?_); rintro e w' ⟨rfl, ⟨nd, rfl⟩⟩; (try (rw [zcC wr]; generalize hq_ : World.drewN wr _ = wr; have n0_ : zaa (Kd.R (Kd.int .u32) 109 wr w.heap.size (fun k_ => (w.heap.size ≤ k_)) v2 x5_1) := ⟨by rw [← hq_]; exact (rc HO_5.out)⟩; have n1_ : zaa (Below w.heap.size w wr) := ⟨by rw [← hq_]; exact (lc HB.out)⟩; clear HO_5 HB hq_; have HO_5 := n0_; have HB := n1_; clear n0_ n1_)); have p21 : 0 ≤ (x22_1 : Int) := zDO (by first | (with_reducible assumption) | assumption); have q21 : (x22_1 : Int) < ((x5_1.length : Int) : Int) := zDO (by first | (with_reducible assumption) | assumption); obtain ⟨go21, co21, eo21, gb21, gl21, cl21, HG21⟩ := Kd.zc4 HO_5.out (by omega); (first | cases eo21 | (injection eo21 with ea_ en_ ec_; (first | subst ea_ | (injection ea_ with ea_; subst ea_)); subst ec_; clear en_)); have GB21 := zaa.mk gb21; have GG21 := zaa.mk HG21; clear gb21 gl21 HG21; obtain ⟨hx21_0, hf21_0⟩ := Kd.zbK 0 HO_5.out (x22_1 : Int) p21 q21; replace p21 := eq_true p21; replace q21 := eq_true q21; obtain ⟨hy22_, hz22_⟩ := Kd.zbK 0 HO_5.out (x22_1 : Int) (zDO (by first | (with_reducible assumption) | assumption)) (zDO (by first | (with_reducible assumption) | assumption)); have HP22 := Kd.zde HO_5.out (x22_1 : Int) t10) | ((with_reducible refine zbX (t := 109) (p := 45) rfl ?_); refine zbQ (t := 109) (p := 45) (v := ?vo_w23) (w1 := (wr.setCell ⟨go21, (x22_1 : Int).toNat, none⟩ (.int .u32 t10))) ?hg ?ho ?hn ?hr ?_; (case ho => rfl); (case hg => rfl); (case hn => rfl); (case hr => first | (go_simp; done) | (go_simp; rfl)); intro w23 hw; have hg : wr.grownBy w23 (some go21) := (by rw [hw]; exact HP22.2); have hp_ : Kd.R (Kd.int .u32) 109 w23 w.heap.size (fun k_ => (w.heap.size ≤ k_)) (.slice (some ⟨go21, 0, none⟩) x5_1.length co21) y12 := (by rw [hw, Ny12.out]; exact HP22.1); clear HP22; have n0_ := zaa.mk (hp_); have n1_ := zaa.mk ((by rw [hw]; exact zbo (HB.out) GB21.out : Below w.heap.size w w23)); clear HO_5; clear HB; have HO_5 := n0_; have HB := n1_; clear n0_ n1_; clear hg hw hp_))
          go_roundg k1
          case measure => have := HK1.out; omega
          case rel => exact ⟨(y12), (t11), (wrap64 (x22_1 + 1)), rs, rs, H', ⟨by have := HK1.out; omega⟩, ⟨by (with_reducible repeat (first | apply Kd.zaQ | apply Kd.zaR | apply Kd.zbb)); exact HO_5.out⟩, ⟨lb⟩⟩
         ·rw [if_neg c20] at H
          exact absurd H (by simp)
        ·rw [if_neg c18] at H
         exact absurd H (by simp)
       ·rw [if_neg c17] at H
        exact absurd H (by simp)
     ·rw [if_neg c8] at H
      have c8b0 : decide (x22_1 < (l1.length : Int)) = false := zDF c8
      clear c8
      by_cases c24 : 0 ≤ (l1.length : Int)
      ·rw [if_pos c24] at H
       have c24b0 : decide (0 ≤ (l1.length : Int)) = true := zDT c24
       have c24b1 : decide (0 ≤ l1.length) = true := decide_eq_true (by omega)
       clear c24
       by_cases c25 : (l1.length : Int) < (x5_1.length : Int)
       ·rw [if_pos c25] at H
        have c25b0 : decide ((l1.length : Int) < (x5_1.length : Int)) = true := zDT c25
        have c25b1 : decide (l1.length < x5_1.length) = true := decide_eq_true (Int.ofNat_lt.mp c25)
        clear c25
        obtain ⟨y13, hy13⟩ : ∃ y_ : List Int, y_ = (x5_1.set ((l1.length : Int) : Int).toNat x6_1) := ⟨_, rfl⟩
        replace H : ((zaM.f k1 y13).bind fun t14 => (some t14)) = some r := by first | (rw [hy13]; with_reducible exact H) | (have H2_ := (Option.bind_some _ _).symm.trans H; rw [hy13]; with_reducible exact H2_) | (have H2_ := (Option.bind_some _ _).symm.trans H; with_reducible exact H2_) | with_reducible exact H | (rw [hy13]; exact H) | exact H
        have Ny13 := zaa.mk hy13
        clear hy13
        replace H := zBE H
        obtain ⟨t14, A270, H⟩ := H
        replace H : (some t14) = some r := H
        have A27 := zaa.mk A270
        clear A270
        obtain rfl := Option.some.inj H
        have p26 : 0 ≤ ((l1.length : Int) : Int) := zDO (by first | (with_reducible assumption) | assumption)
        have q26 : ((l1.length : Int) : Int) < ((x5_1.length : Int) : Int) := zDO (by first | (with_reducible assumption) | assumption)
        obtain ⟨go26, co26, eo26, gb26, gl26, cl26, HG26⟩ := Kd.zc4 HO_5.out (by omega)
        (first | cases eo26 | (injection eo26 with ea_ en_ ec_; (first | subst ea_ | (injection ea_ with ea_; subst ea_)); subst ec_; clear en_))
        have GB26 := zaa.mk gb26
        have GG26 := zaa.mk HG26
        clear gb26 gl26 HG26
        obtain ⟨hx26_0, hf26_0⟩ := Kd.zbK 0 HO_5.out ((l1.length : Int) : Int) p26 q26
        have hx26n := hx26_0
        have hf26n := hf26_0
        simp only [Int.toNat_natCast] at hx26n hf26n
        replace p26 := eq_true p26
        replace q26 := eq_true q26
        have HP28 := Kd.zde HO_5.out ((l1.length : Int) : Int) x6_1
        go_wp2_with (first | ((with_reducible refine zbX (t := 109) (p := 51) rfl ?_); refine zbQ (t := 109) (p := 51) (v := ?vo_w29) (w1 := (wr.setCell ⟨go26, ((l1.length : Int) : Int).toNat, none⟩ (.int .u32 x6_1))) ?hg ?ho ?hn ?hr ?_; (case ho => rfl); (case hg => rfl); (case hn => rfl); (case hr => first | (go_simp; done) | (go_simp; rfl)); intro w29 hw; have hg : wr.grownBy w29 (some go26) := (by rw [hw]; exact HP28.2); have hp_ : Kd.R (Kd.int .u32) 109 w29 w.heap.size (fun k_ => (w.heap.size ≤ k_)) (.slice (some ⟨go26, 0, none⟩) x5_1.length co26) y13 := (by rw [hw, Ny13.out]; exact HP28.1); clear HP28; have n0_ := zaa.mk (hp_); have n1_ := zaa.mk ((by rw [hw]; exact zbo (HB.out) GB26.out : Below w.heap.size w w29)); clear HO_5; clear HB; have HO_5 := n0_; have HB := n1_; clear n0_ n1_; clear hg hw hp_) | ((with_reducible refine zcL (f := 167) rfl ?_); refine zgC (some 53) rfl rfl Tryz.func167 (by kernel_rfl) rfl #[.slice (some ⟨go26, 0, none⟩) y13.length co26] rfl (by (try simp only [List.map_toArray, List.map_cons, List.map_nil]); first | done | (rw [show y13.length = x5_1.length from (Kd.zax HO_5.out).1.symm] <;> rfl) | rfl | (simp only [List.length_drop, List.length_take]; rfl)) ?_; (with_reducible refine (zaM.calls k1 (fun k_ => some k_ = (.slice (some ⟨go26, 0, none⟩) x5_1.length co26 : Value).ownBlock) _ _ y13 t14 _ ?side1 A27.out).mono ?_); (case side1 => rw [show y13.length = x5_1.length from (Kd.zax HO_5.out).1.symm]; exact Kd.R_V (Kd.zel rfl (HO_5.out))); rintro e w30 ⟨v15, rfl, ho0, hb⟩; refine ⟨_, rfl, ?_⟩; have n0_ := zaa.mk (Kd.zaS (rc HO_5.out) hb); have n1_ := zaa.mk (Kd.zbU (Kd.zbH (ok' := fun k_ => (w.heap.size ≤ k_)) ho0 (fun k_ hk_ => Or.elim hk_ (fun hs_ => ((HO_5.out).1 k_ hs_.symm)) (fun hn_ => (Nat.le_trans (zad (lc HB.out)) hn_)))) (zad (lc HB.out))); have n2_ := zaa.mk (zab (lc HB.out) hb); clear HO_5; clear HB; have HO_5 := n0_; have HO16 := n1_; have HB := n2_; clear n0_ n1_ n2_; (try clear hb); (try clear hb2); (try clear hk); (try clear hi); (try clear ho0)))
        go_ret
        exact ⟨_, by first | rfl | (simp [zaf, zag] <;> rfl) | (simp only [← hji3]; first | rfl | (simp [zaf, zag] <;> rfl)) | (simp [*, zaf, zag] <;> rfl), by (with_reducible repeat (first | apply Kd.zaZ | apply Kd.zbr | apply Kd.zbI)); exact HO16.out, lb⟩
       ·rw [if_neg c25] at H
        exact absurd H (by simp)
      ·rw [if_neg c24] at H
       exact absurd H (by simp)
  ·rw [if_neg c5] at H
   exact absurd H (by simp)
 ·rw [if_neg c4] at H
  exact absurd H (by simp)
def zaD.f (k : Nat) (l0 : List Int) (l1 : List Int) : Option (List Int) := if (l0.length : Int) < (l1.length : Int) then zaD.g k l1 l0 else zaD.g k l0 l1
theorem zaD.mono : ∀ a0 a1 k, LeO (zaD.f k a0 a1) (zaD.f (k + 1) a0 a1) := by
 intro a0 a1 k
 unfold zaD.f
 split
 ·exact zaD.zqm _ _ _
 ·exact zaD.zqm _ _ _
theorem zaD.calls (k : Nat) (A0 : Option Addr) (c0 : Nat) (l0 : List Int) (A1 : Option Addr) (c1 : Nat) (l1 : List Int) (r : List Int) (w : World) (hr0 : Kd.C (Kd.int .u32) w A0 l0.length l0) (hc0 : l0.length ≤ c0) (hr1 : Kd.C (Kd.int .u32) w A1 l1.length l1) (hc1 : l1.length ≤ c1) (h : zaD.f k l0 l1 = some r) :
  Calls Tryz.prog 135 #[.slice A0 l0.length c0, .slice A1 l1.length c1] w fun e w' => ∃ v0_ : Value, e = .returned (v0_) ∧ Kd.V (Kd.int .u32) 109 w' w.heap.size (fun k_ => (w.heap.size ≤ k_)) v0_ r ∧ Below w.heap.size w w' := by
 unfold zaD.f at h
 by_cases hs : (l0.length : Int) < (l1.length : Int)
 ·rw [if_pos hs] at h
  exact zaD.znK k A0 c0 l0 A1 c1 l1 r w hr0 hc0 hr1 hc1 (decide_eq_true hs) h
 ·rw [if_neg hs] at h
  exact zaD.znJ k A0 c0 l0 A1 c1 l1 r w hr0 hc0 hr1 hc1 (decide_eq_false hs) h
def zbE.f (l0 : List Int) : Option (Int) := if (l0.length : Int) > 64 then (some 5) else (if (l0.length : Int) > 0 then (if 0 ≤ (wrap64 ((l0.length : Int) - 1)) then (if (wrap64 ((l0.length : Int) - 1)) < (l0.length : Int) then (if (rd l0 (wrap64 ((l0.length : Int) - 1))) = 0 then (some 2) else (some 0)) else (none)) else (none)) else (some 0))
theorem zbE.calls (A0 : Option Addr) (c0 : Nat) (l0 : List Int) (r : Int) (w : World) (hr0 : Kd.C (Kd.int .u32) w A0 l0.length l0) (hc0 : l0.length ≤ c0) (h : zbE.f l0 = some r) :
  Calls Tryz.prog 138 #[.slice A0 l0.length c0] w fun e w' => e = .returned (.int .i64 r) ∧ zaO w w' := by
 have HR0 := zaa.mk hr0
 have HC0 := zaa.mk hc0
 clear hr0 hc0
 have H : (if (l0.length : Int) > 64 then (some 5) else (if (l0.length : Int) > 0 then (if 0 ≤ (wrap64 ((l0.length : Int) - 1)) then (if (wrap64 ((l0.length : Int) - 1)) < (l0.length : Int) then (if (rd l0 (wrap64 ((l0.length : Int) - 1))) = 0 then (some 2) else (some 0)) else (none)) else (none)) else (some 0))) = some r := h
 clear h
 by_cases c2 : (l0.length : Int) > 64
 ·rw [if_pos c2] at H
  have c2b0 : decide (64 < (l0.length : Int)) = true := zDT c2
  have c2b1 : decide (64 < l0.length) = true := decide_eq_true (by omega)
  clear c2
  obtain rfl := Option.some.inj H
  go_enter Tryz.func138, Tryz.ntmps138
  go_wp2
  go_ret
  exact ⟨by first | rfl | (simp; done) | (simp [*]; done), by repeat (first | exact zaO.refl _ | apply zaO.step)⟩
 ·rw [if_neg c2] at H
  have c2b0 : decide (64 < (l0.length : Int)) = false := zDF c2
  have c2b1 : decide (64 < l0.length) = false := decide_eq_false (by omega)
  clear c2
  by_cases c3 : (l0.length : Int) > 0
  ·rw [if_pos c3] at H
   have c3b0 : decide (0 < (l0.length : Int)) = true := zDT c3
   have c3b1 : decide (0 < l0.length) = true := decide_eq_true (by omega)
   clear c3
   obtain ⟨ji4, hji4⟩ : ∃ j_ : Int, (wrap64 ((l0.length : Int) - 1)) = j_ := ⟨_, rfl⟩
   replace H : (if 0 ≤ (ji4) then (if (ji4) < (l0.length : Int) then (if (rd l0 (ji4)) = 0 then (some 2) else (some 0)) else (none)) else (none)) = some r := by first | (rw [hji4] at H; exact H) | (simp only [hji4] at H ⊢; exact H)
   have hji4w : (IntKind.i64.wrap ((l0.length : Int) - 1)) = ji4 := (zbs _).trans hji4
   by_cases c5 : 0 ≤ (ji4)
   ·rw [if_pos c5] at H
    have c5b0 : decide (0 ≤ (ji4)) = true := zDT c5
    clear c5
    by_cases c6 : (ji4) < (l0.length : Int)
    ·rw [if_pos c6] at H
     have c6b0 : decide ((ji4) < (l0.length : Int)) = true := zDT c6
     clear c6
     by_cases c7 : (rd l0 (ji4)) = 0
     ·rw [if_pos c7] at H
      have c7b0 : ((rd l0 (ji4)) == 0) = true := beq_iff_eq.mpr c7
      have c7b1 : ((rd l0 (ji4)) != 0) = false := bne_eq_false_iff_eq.mpr c7
      clear c7
      obtain rfl := Option.some.inj H
      have p1 : 0 ≤ ((ji4) : Int) := zDO (by first | (with_reducible assumption) | assumption)
      have q1 : (ji4) < (l0.length : Int) := zDO (by first | (with_reducible assumption) | assumption)
      obtain ⟨ad1, e1, hx1_0⟩ := Kd.zbT HR0.out (ji4) p1 q1
      cases e1
      replace p1 := eq_true p1
      replace q1 := eq_true q1
      go_enter Tryz.func138, Tryz.ntmps138
      go_wp2
      go_ret
      exact ⟨by first | rfl | (simp; done) | (simp only [← hji4] <;> (first | rfl | simp)) | (simp [*]; done), by repeat (first | exact zaO.refl _ | apply zaO.step)⟩
     ·rw [if_neg c7] at H
      have c7b0 : ((rd l0 (ji4)) == 0) = false := beq_eq_false_iff_ne.mpr c7
      have c7b1 : ((rd l0 (ji4)) != 0) = true := bne_iff_ne.mpr c7
      obtain rfl := Option.some.inj H
      have p1 : 0 ≤ ((ji4) : Int) := zDO (by first | (with_reducible assumption) | assumption)
      have q1 : (ji4) < (l0.length : Int) := zDO (by first | (with_reducible assumption) | assumption)
      obtain ⟨ad1, e1, hx1_0⟩ := Kd.zbT HR0.out (ji4) p1 q1
      cases e1
      replace p1 := eq_true p1
      replace q1 := eq_true q1
      go_enter Tryz.func138, Tryz.ntmps138
      go_wp2
      go_ret
      exact ⟨by first | rfl | (simp; done) | (simp only [← hji4] <;> (first | rfl | simp)) | (simp [*]; done), by repeat (first | exact zaO.refl _ | apply zaO.step)⟩
    ·rw [if_neg c6] at H
     exact absurd H (by simp)
   ·rw [if_neg c5] at H
    exact absurd H (by simp)
  ·rw [if_neg c3] at H
   have c3b0 : decide (0 < (l0.length : Int)) = false := zDF c3
   have c3b1 : decide (0 < l0.length) = false := decide_eq_false (by omega)
   clear c3
   obtain rfl := Option.some.inj H
   go_enter Tryz.func138, Tryz.ntmps138
   go_wp2
   go_ret
   exact ⟨by first | rfl | (simp; done) | (simp [*]; done), by repeat (first | exact zaO.refl _ | apply zaO.step)⟩
def zby.f (l0 : List Int) (l1 : List Int) : Option (Int) := (zbE.f l0).bind fun t1 => (if t1 = 0 then ((zbE.f l1).bind fun t2 => (some t2)) else (some t1))
theorem zby.calls (A0 : Option Addr) (c0 : Nat) (l0 : List Int) (A1 : Option Addr) (c1 : Nat) (l1 : List Int) (r : Int) (w : World) (hr0 : Kd.C (Kd.int .u32) w A0 l0.length l0) (hc0 : l0.length ≤ c0) (hr1 : Kd.C (Kd.int .u32) w A1 l1.length l1) (hc1 : l1.length ≤ c1) (h : zby.f l0 l1 = some r) :
  Calls Tryz.prog 163 #[.slice A0 l0.length c0, .slice A1 l1.length c1] w fun e w' => e = .returned (.int .i64 r) ∧ zaO w w' := by
 have HR0 := zaa.mk hr0
 have HC0 := zaa.mk hc0
 clear hr0 hc0
 have HR1 := zaa.mk hr1
 have HC1 := zaa.mk hc1
 clear hr1 hc1
 have H : ((zbE.f l0).bind fun t1 => (if t1 = 0 then ((zbE.f l1).bind fun t2 => (some t2)) else (some t1))) = some r := h
 clear h
 replace H := zBE H
 obtain ⟨t1, A30, H⟩ := H
 replace H : (if t1 = 0 then ((zbE.f l1).bind fun t2 => (some t2)) else (some t1)) = some r := H
 have A3 := zaa.mk A30
 clear A30
 by_cases c4 : t1 = 0
 ·rw [if_pos c4] at H
  have c4b0 : (t1 == 0) = true := beq_iff_eq.mpr c4
  have c4b1 : (t1 != 0) = false := bne_eq_false_iff_eq.mpr c4
  clear c4
  replace H := zBE H
  obtain ⟨t2, A50, H⟩ := H
  replace H : (some t2) = some r := H
  have A5 := zaa.mk A50
  clear A50
  obtain rfl := Option.some.inj H
  go_enter Tryz.func163, Tryz.ntmps163
  go_wp2_with (first | (go_at_call 138; (with_reducible refine (zbE.calls _ _ l0 t1 _ ?side1 ?side2 A3.out).mono ?_); (case side1 => exact cc HR0.out); (case side2 => exact HC0.out); rintro e w' ⟨rfl, ⟨nd, rfl⟩⟩) | (go_at_call 138; (with_reducible refine (zbE.calls _ _ l1 t2 _ ?side1 ?side2 A5.out).mono ?_); (case side1 => exact cc HR1.out); (case side2 => exact HC1.out); rintro e w' ⟨rfl, ⟨nd, rfl⟩⟩))
  go_ret
  exact ⟨by first | rfl | (simp; done) | (simp [*]; done), by repeat (first | exact zaO.refl _ | apply zaO.step)⟩
 ·rw [if_neg c4] at H
  have c4b0 : (t1 == 0) = false := beq_eq_false_iff_ne.mpr c4
  have c4b1 : (t1 != 0) = true := bne_iff_ne.mpr c4
  obtain rfl := Option.some.inj H
  go_enter Tryz.func163, Tryz.ntmps163
  go_wp2_with (first | (go_at_call 138; (with_reducible refine (zbE.calls _ _ l0 t1 _ ?side1 ?side2 A3.out).mono ?_); (case side1 => exact cc HR0.out); (case side2 => exact HC0.out); rintro e w' ⟨rfl, ⟨nd, rfl⟩⟩))
  go_ret
  exact ⟨by first | rfl | (simp; done) | (simp [*]; done), by repeat (first | exact zaO.refl _ | apply zaO.step)⟩
def zbf.l0 : Nat → List Int → List Int → Option (List Int × Int)
 | 0, _, _ => none
 | k + 1, x7, x8 => if (x8.length : Int) > 0 then ((zcm.f x7 x8).bind fun bt8 => (zbf.l0 k x8 bt8.2)) else (some (x7, 0))
def zbf.f (k : Nat) (l0 : List Int) (l1 : List Int) : Option (List Int × Int) := (zby.f l0 l1).bind fun t1 => (if t1 = 0 then ((zau.f l0).bind fun t2 => ((zau.f l1).bind fun t5 => (zbf.l0 k t2 t5))) else (some (([] : List Int), t1)))
theorem zbf.zbp : ∀ k, (∀ y0 y1, LeO (zbf.l0 k y0 y1) (zbf.l0 (k + 1) y0 y1))
 | 0 => fun _ _ r h => by simp [zbf.l0] at h
 | k + 1 => by
  have ih0 := zbf.zbp k
  ·intro y0 y1
   unfold zbf.l0
   repeat' with_reducible first | exact ih0 _ _ | exact LeO.refl _ | exact LeO.none _ | refine LeO.ite ?_ ?_ | refine LeO.bind ?_ (fun _ => ?_)
theorem zbf.mono : ∀ a0 a1 k, LeO (zbf.f k a0 a1) (zbf.f (k + 1) a0 a1) := by
 intro a0 a1 k
 have ih0 := zbf.zbp k
 unfold zbf.f
 repeat' with_reducible first | exact ih0 _ _ | exact LeO.refl _ | exact LeO.none _ | refine LeO.ite ?_ ?_ | refine LeO.bind ?_ (fun _ => ?_)
theorem zbf.calls (k : Nat) (A0 : Option Addr) (c0 : Nat) (l0 : List Int) (A1 : Option Addr) (c1 : Nat) (l1 : List Int) (r1 : List Int) (r2 : Int) (w : World) (hr0 : Kd.C (Kd.int .u32) w A0 l0.length l0) (hc0 : l0.length ≤ c0) (hr1 : Kd.C (Kd.int .u32) w A1 l1.length l1) (hc1 : l1.length ≤ c1) (h : zbf.f k l0 l1 = some (r1, r2)) :
  Calls Tryz.prog 130 #[.slice A0 l0.length c0, .slice A1 l1.length c1] w fun e w' => ∃ v0_ : Value, e = .returned (.tuple #[v0_, .int .i64 r2]) ∧ Kd.R (Kd.int .u32) 109 w' w.heap.size (fun _ => True) v0_ r1 ∧ Below w.heap.size w w' := by
 have HR0 := zaa.mk hr0
 have HC0 := zaa.mk hc0
 clear hr0 hc0
 have HR1 := zaa.mk hr1
 have HC1 := zaa.mk hc1
 clear hr1 hc1
 have HB := zaa.mk (Below.refl w.heap.size w)
 have H : ((zby.f l0 l1).bind fun t1 => (if t1 = 0 then ((zau.f l0).bind fun t2 => ((zau.f l1).bind fun t5 => (zbf.l0 k t2 t5))) else (some (([] : List Int), t1)))) = some (r1, r2) := h
 clear h
 replace H := zBE H
 obtain ⟨t1, A30, H⟩ := H
 replace H : (if t1 = 0 then ((zau.f l0).bind fun t2 => ((zau.f l1).bind fun t5 => (zbf.l0 k t2 t5))) else (some (([] : List Int), t1))) = some (r1, r2) := H
 have A3 := zaa.mk A30
 clear A30
 by_cases c4 : t1 = 0
 ·rw [if_pos c4] at H
  have c4b0 : (t1 == 0) = true := beq_iff_eq.mpr c4
  have c4b1 : (t1 != 0) = false := bne_eq_false_iff_eq.mpr c4
  clear c4
  replace H := zBE H
  obtain ⟨t2, A50, H⟩ := H
  replace H : ((zau.f l1).bind fun t5 => (zbf.l0 k t2 t5)) = some (r1, r2) := H
  have A5 := zaa.mk A50
  clear A50
  replace H := zBE H
  obtain ⟨t5, A60, H⟩ := H
  replace H : (zbf.l0 k t2 t5) = some (r1, r2) := H
  have A6 := zaa.mk A60
  clear A60
  have H' := zaa.mk H
  clear H
  go_enter Tryz.func130, Tryz.ntmps130
  go_wp2_with (first | (go_at_call 163; (with_reducible refine (zby.calls _ _ l0 _ _ l1 t1 _ ?side1 ?side2 ?side3 ?side4 A3.out).mono ?_); (case side1 => exact cc HR0.out); (case side2 => exact HC0.out); (case side3 => exact cc HR1.out); (case side4 => exact HC1.out); rintro e w' ⟨rfl, ⟨nd, rfl⟩⟩) | (go_at_call 90; (with_reducible refine (zau.calls _ _ l0 t2 _ ?side1 ?side2 A5.out).mono ?_); (case side1 => exact cc HR0.out); (case side2 => exact HC0.out); rintro e w7 ⟨v3, rfl, ho0, hb⟩; have n0_ := zaa.mk (Kd.zaz ho0 (zad (lc HB.out))); have n1_ := zaa.mk (zab (lc HB.out) hb); clear HB; have HO4 := n0_; have HB := n1_; clear n0_ n1_; (try clear hb); (try clear hb2); (try clear hk); (try clear hi); (try clear ho0)) | (go_at_call 90; (with_reducible refine (zau.calls _ _ l1 t5 _ ?side1 ?side2 A6.out).mono ?_); (case side1 => exact cc (Kd.zaY HR1.out HB.out)); (case side2 => exact HC1.out); rintro e w8 ⟨v6, rfl, ho0, hb⟩; have n0_ := zaa.mk (Kd.zf9 (rc HO4.out) (Kd.zbk ho0) hb); have n1_ := zaa.mk (Kd.zaz (Kd.zbq ho0 (Kd.zcH (rc HO4.out))) (zad (lc HB.out))); have n2_ := zaa.mk (zab (lc HB.out) hb); clear HO4; clear HB; have HO4 := n0_; have HO7 := n1_; have HB := n2_; clear n0_ n1_ n2_; (try clear hb); (try clear hb2); (try clear hk); (try clear hi); (try clear ho0)))
  go_loopg [7, 8] k (fun kq v7 v8 w' => ∃ (x7_1 : List Int) (x8_1 : List Int), zaa (zbf.l0 kq x7_1 x8_1 = some (r1, r2)) ∧ zaa (kq ≤ k) ∧ zaa (Kd.R (Kd.int .u32) 109 w' w.heap.size (fun k_ => some k_ ≠ (v8 : Value).ownBlock) v7 x7_1) ∧ zaa (Kd.R (Kd.int .u32) 109 w' w.heap.size (fun k_ => some k_ ≠ (v7 : Value).ownBlock) v8 x8_1) ∧ zaa (Below w.heap.size w w'))
  case atStart => exact ⟨(t2), (t5), H', ⟨Nat.le_refl _⟩, ⟨by (with_reducible repeat (first | apply Kd.zaQ | apply Kd.zaR | apply Kd.zbb)); exact Kd.za7 HO4.out (fun _ hk => hk.2)⟩, ⟨by (with_reducible repeat (first | apply Kd.zaQ | apply Kd.zaR | apply Kd.zbb)); exact Kd.za7 HO7.out (fun _ hk => hk.2)⟩, ⟨lb⟩⟩
  case round =>
   clear H'
   try clear c1
   try clear p2
   try clear c4
   try clear c4b0
   try clear c4b1
   obtain ⟨x7_1, x8_1, HA, HK1, HO_7, HO_8, HB⟩ := hrel
   cases gk with
   | zero => exact absurd HA.out (by simp [zbf.l0])
   | succ k1 =>
    have H := HA.out
    clear HA
    simp only [zbf.l0] at H
    by_cases c9 : (x8_1.length : Int) > 0
    ·rw [if_pos c9] at H
     have c9b0 : decide (0 < (x8_1.length : Int)) = true := zDT c9
     have c9b1 : decide (0 < x8_1.length) = true := decide_eq_true (by omega)
     clear c9
     replace H := zBE H
     obtain ⟨⟨t8, t9⟩, A100, H⟩ := H
     replace H : (zbf.l0 k1 x8_1 t9) = some (r1, r2) := H
     have A10 := zaa.mk A100
     clear A100
     have H' := zaa.mk H
     clear H
     obtain ⟨Ao11, co11, eo11⟩ := Kd.zaC HO_8.out
     subst eo11
     obtain ⟨Ao12, co12, eo12⟩ := Kd.zaC HO_7.out
     subst eo12
     go_wp2_with (first | (go_at_call 164; (with_reducible refine (zcm.calls _ _ x7_1 _ _ x8_1 t8 t9 _ ?side1 ?side2 ?side3 ?side4 A10.out).mono ?_); (case side1 => exact cc (Kd.zax HO_7.out).2.2); (case side2 => exact (Kd.zax HO_7.out).2.1); (case side3 => exact cc (Kd.zax HO_8.out).2.2); (case side4 => exact (Kd.zax HO_8.out).2.1); rintro e w13 ⟨v10, v12, rfl, ho0, ho1, hb⟩; have n0_ := zaa.mk (Kd.za7 (Kd.zbx (Kd.zbx (Kd.zc5 (rc HO_7.out) hb) (Kd.zbk ho0)) (Kd.zbk ho1)) (fun _ h_ => h_.1)); have n1_ := zaa.mk (Kd.za7 (Kd.zbx (Kd.zbx (Kd.zc5 (rc HO_8.out) hb) (Kd.zbk ho0)) (Kd.zbk ho1)) (fun _ h_ => h_.1)); have n2_ := zaa.mk (Kd.zaz (Kd.zbq (Kd.zbq ho0 (Kd.zcH (rc HO_7.out))) (Kd.zcH (rc HO_8.out))) (zad (lc HB.out))); have n3_ := zaa.mk (Kd.zaz (Kd.zbq (Kd.zbq ho1 (Kd.zcH (rc HO_7.out))) (Kd.zcH (rc HO_8.out))) (zad (lc HB.out))); have n4_ := zaa.mk (zab (lc HB.out) hb); clear HO_7; clear HO_8; clear HB; have HO_7 := n0_; have HO_8 := n1_; have HO11 := n2_; have HO13 := n3_; have HB := n4_; clear n0_ n1_ n2_ n3_ n4_; (try clear hb); (try clear hb2); (try clear hk); (try clear hi); (try clear ho0); (try clear ho1)))
     go_roundg k1
     case measure => have := HK1.out; omega
     case rel => exact ⟨(x8_1), (t9), H', ⟨by have := HK1.out; omega⟩, ⟨by (with_reducible repeat (first | apply Kd.zaQ | apply Kd.zaR | apply Kd.zbb)); exact Kd.za7 HO_8.out (fun _ hk => hk.2)⟩, ⟨by (with_reducible repeat (first | apply Kd.zaQ | apply Kd.zaR | apply Kd.zbb)); exact Kd.za7 HO13.out (fun _ hk => hk.2)⟩, ⟨lb⟩⟩
    ·rw [if_neg c9] at H
     have c9b0 : decide (0 < (x8_1.length : Int)) = false := zDF c9
     have c9b1 : decide (0 < x8_1.length) = false := decide_eq_false (by omega)
     clear c9
     simp only [Option.some.injEq, Prod.mk.injEq] at H
     obtain ⟨rfl, rfl⟩ := H
     obtain ⟨Ao14, co14, eo14⟩ := Kd.zaC HO_8.out
     subst eo14
     go_wp2
     go_ret2
     exact ⟨_, by first | rfl | (simp [zaf, zag] <;> rfl) | (simp [*, zaf, zag] <;> rfl), by (with_reducible repeat (first | apply Kd.zaQ | apply Kd.zaR | apply Kd.zbb)); exact Kd.za7 HO_7.out (fun _ hk => trivial), lb⟩
 ·rw [if_neg c4] at H
  have c4b0 : (t1 == 0) = false := beq_eq_false_iff_ne.mpr c4
  have c4b1 : (t1 != 0) = true := bne_iff_ne.mpr c4
  simp only [Option.some.injEq, Prod.mk.injEq] at H
  obtain ⟨rfl, rfl⟩ := H
  go_enter Tryz.func130, Tryz.ntmps130
  go_wp2_with (first | (go_at_call 163; (with_reducible refine (zby.calls _ _ l0 _ _ l1 t1 _ ?side1 ?side2 ?side3 ?side4 A3.out).mono ?_); (case side1 => exact cc HR0.out); (case side2 => exact HC0.out); (case side3 => exact cc HR1.out); (case side4 => exact HC1.out); rintro e w' ⟨rfl, ⟨nd, rfl⟩⟩))
  go_ret2
  exact ⟨_, by first | rfl | (simp [zaf, zag] <;> rfl) | (simp [*, zaf, zag] <;> rfl), by first | exact Kd.zcl _ _ _ _ _ | exact Kd.zdi _ _ _ _ _ | exact Kd.zcA _ _ _ _ _ | exact Kd.zdf _ _ _ _ _ | exact Kd.zdh _ _ _ _ _, lb⟩
def zb9.f (l0 : List Int) (l1 : List Int) : Option (List Int × List Int × Int) := (zby.f l0 l1).bind fun t1 => (if t1 = 0 then (if (l1.length : Int) = 0 then (some (([] : List Int), ([] : List Int), 21)) else ((zcm.f l0 l1).bind fun bt2 => (some (bt2.1, bt2.2, 0)))) else (some (([] : List Int), ([] : List Int), t1)))
theorem zb9.calls (A0 : Option Addr) (c0 : Nat) (l0 : List Int) (A1 : Option Addr) (c1 : Nat) (l1 : List Int) (r1 : List Int) (r2 : List Int) (r3 : Int) (w : World) (hr0 : Kd.C (Kd.int .u32) w A0 l0.length l0) (hc0 : l0.length ≤ c0) (hr1 : Kd.C (Kd.int .u32) w A1 l1.length l1) (hc1 : l1.length ≤ c1) (h : zb9.f l0 l1 = some (r1, r2, r3)) :
  Calls Tryz.prog 168 #[.slice A0 l0.length c0, .slice A1 l1.length c1] w fun e w' => ∃ v0_ v1_ : Value, e = .returned (.tuple #[v0_, v1_, .int .i64 r3]) ∧ Kd.R (Kd.int .u32) 109 w' w.heap.size (fun k_ => some k_ ≠ (v1_ : Value).ownBlock) v0_ r1 ∧ Kd.R (Kd.int .u32) 109 w' w.heap.size (fun k_ => some k_ ≠ (v0_ : Value).ownBlock) v1_ r2 ∧ Below w.heap.size w w' := by
 have HR0 := zaa.mk hr0
 have HC0 := zaa.mk hc0
 clear hr0 hc0
 have HR1 := zaa.mk hr1
 have HC1 := zaa.mk hc1
 clear hr1 hc1
 have HB := zaa.mk (Below.refl w.heap.size w)
 have H : ((zby.f l0 l1).bind fun t1 => (if t1 = 0 then (if (l1.length : Int) = 0 then (some (([] : List Int), ([] : List Int), 21)) else ((zcm.f l0 l1).bind fun bt2 => (some (bt2.1, bt2.2, 0)))) else (some (([] : List Int), ([] : List Int), t1)))) = some (r1, r2, r3) := h
 clear h
 replace H := zBE H
 obtain ⟨t1, A30, H⟩ := H
 replace H : (if t1 = 0 then (if (l1.length : Int) = 0 then (some (([] : List Int), ([] : List Int), 21)) else ((zcm.f l0 l1).bind fun bt2 => (some (bt2.1, bt2.2, 0)))) else (some (([] : List Int), ([] : List Int), t1))) = some (r1, r2, r3) := H
 have A3 := zaa.mk A30
 clear A30
 by_cases c4 : t1 = 0
 ·rw [if_pos c4] at H
  have c4b0 : (t1 == 0) = true := beq_iff_eq.mpr c4
  have c4b1 : (t1 != 0) = false := bne_eq_false_iff_eq.mpr c4
  clear c4
  by_cases c5 : (l1.length : Int) = 0
  ·rw [if_pos c5] at H
   have c5b0 : ((l1.length : Int) == 0) = true := beq_iff_eq.mpr c5
   have c5b1 : ((l1.length : Int) != 0) = false := bne_eq_false_iff_eq.mpr c5
   clear c5
   simp only [Option.some.injEq, Prod.mk.injEq] at H
   obtain ⟨rfl, rfl, rfl⟩ := H
   go_enter Tryz.func168, Tryz.ntmps168
   go_wp2_with (first | (go_at_call 163; (with_reducible refine (zby.calls _ _ l0 _ _ l1 t1 _ ?side1 ?side2 ?side3 ?side4 A3.out).mono ?_); (case side1 => exact cc HR0.out); (case side2 => exact HC0.out); (case side3 => exact cc HR1.out); (case side4 => exact HC1.out); rintro e w' ⟨rfl, ⟨nd, rfl⟩⟩))
   go_ret3
   exact ⟨_, _, by first | rfl | (simp [zaf, zag] <;> rfl) | (simp [*, zaf, zag] <;> rfl), by first | exact Kd.zcl _ _ _ _ _ | exact Kd.zdi _ _ _ _ _ | exact Kd.zcA _ _ _ _ _ | exact Kd.zdf _ _ _ _ _ | exact Kd.zdh _ _ _ _ _, by first | exact Kd.zcl _ _ _ _ _ | exact Kd.zdi _ _ _ _ _ | exact Kd.zcA _ _ _ _ _ | exact Kd.zdf _ _ _ _ _ | exact Kd.zdh _ _ _ _ _, lb⟩
  ·rw [if_neg c5] at H
   have c5b0 : ((l1.length : Int) == 0) = false := beq_eq_false_iff_ne.mpr c5
   have c5b1 : ((l1.length : Int) != 0) = true := bne_iff_ne.mpr c5
   have c5b2 : ¬ (l1 = []) := fun h_ => c5 (by rw [h_]; rfl)
   replace H := zBE H
   obtain ⟨⟨t2, t3⟩, A60, H⟩ := H
   replace H : (some (t2, t3, 0)) = some (r1, r2, r3) := H
   have A6 := zaa.mk A60
   clear A60
   simp only [Option.some.injEq, Prod.mk.injEq] at H
   obtain ⟨rfl, rfl, rfl⟩ := H
   go_enter Tryz.func168, Tryz.ntmps168
   go_wp2_with (first | (go_at_call 163; (with_reducible refine (zby.calls _ _ l0 _ _ l1 t1 _ ?side1 ?side2 ?side3 ?side4 A3.out).mono ?_); (case side1 => exact cc HR0.out); (case side2 => exact HC0.out); (case side3 => exact cc HR1.out); (case side4 => exact HC1.out); rintro e w' ⟨rfl, ⟨nd, rfl⟩⟩) | (go_at_call 164; (with_reducible refine (zcm.calls _ _ l0 _ _ l1 t2 t3 _ ?side1 ?side2 ?side3 ?side4 A6.out).mono ?_); (case side1 => exact cc HR0.out); (case side2 => exact HC0.out); (case side3 => exact cc HR1.out); (case side4 => exact HC1.out); rintro e w7 ⟨v4, v6, rfl, ho0, ho1, hb⟩; have n0_ := zaa.mk (Kd.zaz ho0 (zad (lc HB.out))); have n1_ := zaa.mk (Kd.zaz ho1 (zad (lc HB.out))); have n2_ := zaa.mk (zab (lc HB.out) hb); clear HB; have HO5 := n0_; have HO7 := n1_; have HB := n2_; clear n0_ n1_ n2_; (try clear hb); (try clear hb2); (try clear hk); (try clear hi); (try clear ho0); (try clear ho1)))
   go_ret3
   exact ⟨_, _, by first | rfl | (simp [zaf, zag] <;> rfl) | (simp [*, zaf, zag] <;> rfl), by (with_reducible repeat (first | apply Kd.zaQ | apply Kd.zaR | apply Kd.zbb)); exact HO5.out, by (with_reducible repeat (first | apply Kd.zaQ | apply Kd.zaR | apply Kd.zbb)); exact HO7.out, lb⟩
 ·rw [if_neg c4] at H
  have c4b0 : (t1 == 0) = false := beq_eq_false_iff_ne.mpr c4
  have c4b1 : (t1 != 0) = true := bne_iff_ne.mpr c4
  simp only [Option.some.injEq, Prod.mk.injEq] at H
  obtain ⟨rfl, rfl, rfl⟩ := H
  go_enter Tryz.func168, Tryz.ntmps168
  go_wp2_with (first | (go_at_call 163; (with_reducible refine (zby.calls _ _ l0 _ _ l1 t1 _ ?side1 ?side2 ?side3 ?side4 A3.out).mono ?_); (case side1 => exact cc HR0.out); (case side2 => exact HC0.out); (case side3 => exact cc HR1.out); (case side4 => exact HC1.out); rintro e w' ⟨rfl, ⟨nd, rfl⟩⟩))
  go_ret3
  exact ⟨_, _, by first | rfl | (simp [zaf, zag] <;> rfl) | (simp [*, zaf, zag] <;> rfl), by first | exact Kd.zcl _ _ _ _ _ | exact Kd.zdi _ _ _ _ _ | exact Kd.zcA _ _ _ _ _ | exact Kd.zdf _ _ _ _ _ | exact Kd.zdh _ _ _ _ _, by first | exact Kd.zcl _ _ _ _ _ | exact Kd.zdi _ _ _ _ _ | exact Kd.zcA _ _ _ _ _ | exact Kd.zdf _ _ _ _ _ | exact Kd.zdh _ _ _ _ _, lb⟩
def zbL.f (k : Nat)  : Option (List Int) := (zbJ.f k 1).bind fun t1 => (some t1)
theorem zbL.mono : ∀ k, LeO (zbL.f k ) (zbL.f (k + 1) ) := by
 intro  k
 unfold zbL.f
 repeat' with_reducible first | exact zbJ.mono _ _ | exact LeO.refl _ | exact LeO.none _ | refine LeO.ite ?_ ?_ | refine LeO.bind ?_ (fun _ => ?_)
theorem zbL.calls (k : Nat)  (r : List Int) (w : World) (h : zbL.f k  = some r) :
  Calls Tryz.prog 132 #[] w fun e w' => ∃ v0_ : Value, e = .returned (v0_) ∧ Kd.V (Kd.int .u32) 109 w' w.heap.size (fun k_ => (w.heap.size ≤ k_)) v0_ r ∧ Below w.heap.size w w' := by
 have HB := zaa.mk (Below.refl w.heap.size w)
 have H : ((zbJ.f k 1).bind fun t1 => (some t1)) = some r := h
 clear h
 replace H := zBE H
 obtain ⟨t1, A10, H⟩ := H
 replace H : (some t1) = some r := H
 have A1 := zaa.mk A10
 clear A10
 obtain rfl := Option.some.inj H
 go_enter Tryz.func132, Tryz.ntmps132
 go_wp2_with (first | (go_at_call 137; (with_reducible refine (zbJ.calls k 1 t1 _ A1.out).mono ?_); rintro e w2 ⟨v2, rfl, ho0, hb⟩; have n0_ := zaa.mk (Kd.zbU (Kd.zbH (ok' := fun k_ => (w.heap.size ≤ k_)) ho0 (fun k_ hk_ => (Nat.le_trans (zad (lc HB.out)) hk_))) (zad (lc HB.out))); have n1_ := zaa.mk (zab (lc HB.out) hb); clear HB; have HO3 := n0_; have HB := n1_; clear n0_ n1_; (try clear hb); (try clear hb2); (try clear hk); (try clear hi); (try clear ho0)))
 go_ret
 exact ⟨_, by first | rfl | (simp [zaf, zag] <;> rfl) | (simp [*, zaf, zag] <;> rfl), by (with_reducible repeat (first | apply Kd.zaZ | apply Kd.zbr | apply Kd.zbI)); exact HO3.out, lb⟩
def zal.l0 : Nat → List Int → List Int → Int → Int → Option (Bool)
 | 0, _, _, _, _ => none
 | k + 1, x0, x1, x12, x13 => if x13 < x12 then (if 0 ≤ x13 then (if x13 < (x0.length : Int) then (if x13 < (x1.length : Int) then (if (rd x0 x13) = (rd x1 x13) then (zal.l0 k x0 x1 x12 (wrap64 (x13 + 1))) else (some false)) else (none)) else (none)) else (none)) else (some true)
def zal.f (k : Nat) (l0 : List Int) (l1 : List Int) : Option (Bool) := if (l0.length : Int) = (l1.length : Int) then (zal.l0 k l0 l1 (l0.length : Int) 0) else (some false)
theorem zal.zbp : ∀ k, (∀ y0 y1 y2 y3, LeO (zal.l0 k y0 y1 y2 y3) (zal.l0 (k + 1) y0 y1 y2 y3))
 | 0 => fun _ _ _ _ r h => by simp [zal.l0] at h
 | k + 1 => by
  have ih0 := zal.zbp k
  ·intro y0 y1 y2 y3
   unfold zal.l0
   repeat' with_reducible first | exact ih0 _ _ _ _ | exact LeO.refl _ | exact LeO.none _ | refine LeO.ite ?_ ?_ | refine LeO.bind ?_ (fun _ => ?_)
theorem zal.mono : ∀ a0 a1 k, LeO (zal.f k a0 a1) (zal.f (k + 1) a0 a1) := by
 intro a0 a1 k
 have ih0 := zal.zbp k
 unfold zal.f
 repeat' with_reducible first | exact ih0 _ _ _ _ | exact LeO.refl _ | exact LeO.none _ | refine LeO.ite ?_ ?_ | refine LeO.bind ?_ (fun _ => ?_)
theorem zal.calls (k : Nat) (A0 : Option Addr) (c0 : Nat) (l0 : List Int) (A1 : Option Addr) (c1 : Nat) (l1 : List Int) (r : Bool) (w : World) (hr0 : Kd.C (Kd.int .u32) w A0 l0.length l0) (hc0 : l0.length ≤ c0) (hr1 : Kd.C (Kd.int .u32) w A1 l1.length l1) (hc1 : l1.length ≤ c1) (h : zal.f k l0 l1 = some r) :
  Calls Tryz.prog 131 #[.slice A0 l0.length c0, .slice A1 l1.length c1] w fun e w' => e = .returned (.bool r) ∧ zaO w w' := by
 have HR0 := zaa.mk hr0
 have HC0 := zaa.mk hc0
 clear hr0 hc0
 have HR1 := zaa.mk hr1
 have HC1 := zaa.mk hc1
 clear hr1 hc1
 have H : (if (l0.length : Int) = (l1.length : Int) then (zal.l0 k l0 l1 (l0.length : Int) 0) else (some false)) = some r := h
 clear h
 by_cases c3 : (l0.length : Int) = (l1.length : Int)
 ·rw [if_pos c3] at H
  have c3b0 : ((l0.length : Int) == (l1.length : Int)) = true := beq_iff_eq.mpr c3
  have c3b1 : ((l0.length : Int) != (l1.length : Int)) = false := bne_eq_false_iff_eq.mpr c3
  have c3b2 : (l0.length == l1.length) = true := by first | simpa using c3 | (simp at c3 ⊢; omega)
  clear c3
  have H' := zaa.mk H
  clear H
  go_enter Tryz.func131, Tryz.ntmps131
  go_wp2
  repeat (go_quiet (fail); try go_wp2)
  go_loopg [13] k (fun kq v13 w' => ∃ (x13_1 : Int), v13 = .int .i64 x13_1 ∧ zaa (zal.l0 kq l0 l1 (l0.length : Int) x13_1 = some r) ∧ zaa (kq ≤ k) ∧ zaO w w')
  case atStart => exact ⟨(0), rs, H', ⟨Nat.le_refl _⟩, by repeat (first | exact zaO.refl _ | apply zaO.step)⟩
  case round =>
   clear H'
   try clear c1
   try clear p2
   try clear c3
   try clear c3b0
   try clear c3b1
   try clear c3b2
   obtain ⟨x13_1, rfl, HA, HK1, ⟨m1, rfl⟩⟩ := hrel
   cases gk with
   | zero => exact absurd HA.out (by simp [zal.l0])
   | succ k1 =>
    have H := HA.out
    clear HA
    simp only [zal.l0] at H
    by_cases c4 : x13_1 < (l0.length : Int)
    ·rw [if_pos c4] at H
     have c4b0 : decide (x13_1 < (l0.length : Int)) = true := zDT c4
     clear c4
     by_cases c5 : 0 ≤ x13_1
     ·rw [if_pos c5] at H
      have c5b0 : decide (0 ≤ x13_1) = true := zDT c5
      clear c5
      by_cases c6 : x13_1 < (l0.length : Int)
      ·rw [if_pos c6] at H
       have c6b0 : decide (x13_1 < (l0.length : Int)) = true := zDT c6
       clear c6
       by_cases c7 : x13_1 < (l1.length : Int)
       ·rw [if_pos c7] at H
        have c7b0 : decide (x13_1 < (l1.length : Int)) = true := zDT c7
        clear c7
        by_cases c8 : (rd l0 x13_1) = (rd l1 x13_1)
        ·rw [if_pos c8] at H
         have c8b0 : ((rd l0 x13_1) == (rd l1 x13_1)) = true := beq_iff_eq.mpr c8
         have c8b1 : ((rd l0 x13_1) != (rd l1 x13_1)) = false := bne_eq_false_iff_eq.mpr c8
         clear c8
         have H' := zaa.mk H
         clear H
         have p1 : 0 ≤ (x13_1 : Int) := zDO (by first | (with_reducible assumption) | assumption)
         have q1 : x13_1 < (l0.length : Int) := zDO (by first | (with_reducible assumption) | assumption)
         obtain ⟨ad1, e1, hx1_0⟩ := Kd.zbT HR0.out x13_1 p1 q1
         cases e1
         replace p1 := eq_true p1
         replace q1 := eq_true q1
         have p2 : 0 ≤ (x13_1 : Int) := zDO (by first | (with_reducible assumption) | assumption)
         have q2 : x13_1 < (l1.length : Int) := zDO (by first | (with_reducible assumption) | assumption)
         obtain ⟨ad2, e2, hx2_0⟩ := Kd.zbT HR1.out x13_1 p2 q2
         cases e2
         replace p2 := eq_true p2
         replace q2 := eq_true q2
         go_wp2
         repeat (go_quiet (fail); try go_wp2)
         go_roundg k1
         case measure => have := HK1.out; omega
         case rel => exact ⟨(wrap64 (x13_1 + 1)), rs, H', ⟨by have := HK1.out; omega⟩, by repeat (first | exact zaO.refl _ | apply zaO.step)⟩
        ·rw [if_neg c8] at H
         have c8b0 : ((rd l0 x13_1) == (rd l1 x13_1)) = false := beq_eq_false_iff_ne.mpr c8
         have c8b1 : ((rd l0 x13_1) != (rd l1 x13_1)) = true := bne_iff_ne.mpr c8
         obtain rfl := Option.some.inj H
         have p1 : 0 ≤ (x13_1 : Int) := zDO (by first | (with_reducible assumption) | assumption)
         have q1 : x13_1 < (l0.length : Int) := zDO (by first | (with_reducible assumption) | assumption)
         obtain ⟨ad1, e1, hx1_0⟩ := Kd.zbT HR0.out x13_1 p1 q1
         cases e1
         replace p1 := eq_true p1
         replace q1 := eq_true q1
         have p2 : 0 ≤ (x13_1 : Int) := zDO (by first | (with_reducible assumption) | assumption)
         have q2 : x13_1 < (l1.length : Int) := zDO (by first | (with_reducible assumption) | assumption)
         obtain ⟨ad2, e2, hx2_0⟩ := Kd.zbT HR1.out x13_1 p2 q2
         cases e2
         replace p2 := eq_true p2
         replace q2 := eq_true q2
         go_wp2
         repeat (go_quiet (fail); try go_wp2)
         go_ret
         exact ⟨by first | rfl | (simp; done) | (simp [*]; done), by repeat (first | exact zaO.refl _ | apply zaO.step)⟩
       ·rw [if_neg c7] at H
        exact absurd H (by simp)
      ·rw [if_neg c6] at H
       exact absurd H (by simp)
     ·rw [if_neg c5] at H
      exact absurd H (by simp)
    ·rw [if_neg c4] at H
     have c4b0 : decide (x13_1 < (l0.length : Int)) = false := zDF c4
     clear c4
     obtain rfl := Option.some.inj H
     go_wp2
     repeat (go_quiet (fail); try go_wp2)
     go_ret
     exact ⟨by first | rfl | (simp; done) | (simp [*]; done), by repeat (first | exact zaO.refl _ | apply zaO.step)⟩
 ·rw [if_neg c3] at H
  have c3b0 : ((l0.length : Int) == (l1.length : Int)) = false := beq_eq_false_iff_ne.mpr c3
  have c3b1 : ((l0.length : Int) != (l1.length : Int)) = true := bne_iff_ne.mpr c3
  have c3b2 : (l0.length == l1.length) = false := by first | simpa using c3 | (simp at c3 ⊢; omega)
  obtain rfl := Option.some.inj H
  go_enter Tryz.func131, Tryz.ntmps131
  go_wp2
  repeat (go_quiet (fail); try go_wp2)
  go_ret
  exact ⟨by first | rfl | (simp; done) | (simp [*]; done), by repeat (first | exact zaO.refl _ | apply zaO.step)⟩
mutual
def zaw.j0 : Nat → Bool → Bool → List Int → List Int → Option (Int)
 | 0, _, _, _, _ => none
 | k + 1, x14, x2000, x2001, x2002 => if x14 = true then (some 20) else ((zbf.f k x2001 x2002).bind fun bt2 => (if bt2.2 = 0 then (zaw.j1 k bt2.1 ((x2002.length : Int) == 0) x2000 x2001 x2002) else (zaw.j1 k bt2.1 true x2000 x2001 x2002)))
def zaw.j1 : Nat → List Int → Bool → Bool → List Int → List Int → Option (Int)
 | 0, _, _, _, _, _ => none
 | k + 1, x3, x23, x2000, x2001, x2002 => if x23 = true then (some 2) else (if x2000 = true then (zaw.j2 k x3 ((x2001.length : Int) == 0)) else (zaw.j2 k x3 false))
def zaw.j2 : Nat → List Int → Bool → Option (Int)
 | 0, _, _ => none
 | k + 1, x3, x32 => if x32 = true then (some 2) else ((zbL.f k).bind fun t6 => ((zal.f k x3 t6).bind fun t9 => (if t9 = true then (some 0) else (some 2))))
end
def zaw.f (k : Nat) (a0_0 : Bool) (l0_1 : List Int) (l0_2 : List Int) : Option (Int) := if (l0_1.length : Int) > 16 then (zaw.j0 k true a0_0 l0_1 l0_2) else (zaw.j0 k (decide ((l0_2.length : Int) > 16)) a0_0 l0_1 l0_2)
theorem zaw.zbp : ∀ k, (∀ y0 y1 y2 y3, LeO (zaw.j0 k y0 y1 y2 y3) (zaw.j0 (k + 1) y0 y1 y2 y3)) ∧ (∀ y0 y1 y2 y3 y4, LeO (zaw.j1 k y0 y1 y2 y3 y4) (zaw.j1 (k + 1) y0 y1 y2 y3 y4)) ∧ (∀ y0 y1, LeO (zaw.j2 k y0 y1) (zaw.j2 (k + 1) y0 y1))
 | 0 => ⟨fun _ _ _ _ r h => by simp [zaw.j0] at h, fun _ _ _ _ _ r h => by simp [zaw.j1] at h, fun _ _ r h => by simp [zaw.j2] at h⟩
 | k + 1 => by
  obtain ⟨ih0, ih1, ih2⟩ := zaw.zbp k
  refine ⟨?_, ?_, ?_⟩
  ·intro y0 y1 y2 y3
   unfold zaw.j0
   repeat' with_reducible first | exact ih0 _ _ _ _ | exact ih1 _ _ _ _ _ | exact ih2 _ _ | exact zbf.mono _ _ _ | exact zbL.mono _ | exact zal.mono _ _ _ | exact LeO.refl _ | exact LeO.none _ | refine LeO.ite ?_ ?_ | refine LeO.bind ?_ (fun _ => ?_)
  ·intro y0 y1 y2 y3 y4
   unfold zaw.j1
   repeat' with_reducible first | exact ih0 _ _ _ _ | exact ih1 _ _ _ _ _ | exact ih2 _ _ | exact zbf.mono _ _ _ | exact zbL.mono _ | exact zal.mono _ _ _ | exact LeO.refl _ | exact LeO.none _ | refine LeO.ite ?_ ?_ | refine LeO.bind ?_ (fun _ => ?_)
  ·intro y0 y1
   unfold zaw.j2
   repeat' with_reducible first | exact ih0 _ _ _ _ | exact ih1 _ _ _ _ _ | exact ih2 _ _ | exact zbf.mono _ _ _ | exact zbL.mono _ | exact zal.mono _ _ _ | exact LeO.refl _ | exact LeO.none _ | refine LeO.ite ?_ ?_ | refine LeO.bind ?_ (fun _ => ?_)
theorem zaw.mono : ∀ a0 a1 a2 k, LeO (zaw.f k a0 a1 a2) (zaw.f (k + 1) a0 a1 a2) := by
 intro a0 a1 a2 k
 obtain ⟨ih0, ih1, ih2⟩ := zaw.zbp k
 unfold zaw.f
 repeat' with_reducible first | exact ih0 _ _ _ _ | exact ih1 _ _ _ _ _ | exact ih2 _ _ | exact zbf.mono _ _ _ | exact zbL.mono _ | exact zal.mono _ _ _ | exact LeO.refl _ | exact LeO.none _ | refine LeO.ite ?_ ?_ | refine LeO.bind ?_ (fun _ => ?_)
theorem zaw.calls (k : Nat) (a0_0 : Bool) (A0_1 : Option Addr) (c0_1 : Nat) (l0_1 : List Int) (A0_2 : Option Addr) (c0_2 : Nat) (l0_2 : List Int) (r : Int) (w : World) (hr0_1 : Kd.C (Kd.int .u32) w A0_1 l0_1.length l0_1) (hc0_1 : l0_1.length ≤ c0_1) (hr0_2 : Kd.C (Kd.int .u32) w A0_2 l0_2.length l0_2) (hc0_2 : l0_2.length ≤ c0_2) (h : zaw.f k a0_0 l0_1 l0_2 = some r) :
  Calls Tryz.prog 89 #[.agg #[.bool a0_0, .slice A0_1 l0_1.length c0_1, .slice A0_2 l0_2.length c0_2]] w fun e w' => e = .returned (.int .i64 r) ∧ Below w.heap.size w w' := by
 have hu41 := Tryz.underlying41
 have HR0_1 := zaa.mk hr0_1
 have HC0_1 := zaa.mk hc0_1
 clear hr0_1 hc0_1
 have HR0_2 := zaa.mk hr0_2
 have HC0_2 := zaa.mk hc0_2
 clear hr0_2 hc0_2
 have HB := zaa.mk (Below.refl w.heap.size w)
 have H : (if (l0_1.length : Int) > 16 then (zaw.j0 k true a0_0 l0_1 l0_2) else (zaw.j0 k (decide ((l0_2.length : Int) > 16)) a0_0 l0_1 l0_2)) = some r := h
 clear h
 have HC2 := zaa.mk H
 clear H
 go_enter Tryz.func89, Tryz.ntmps89
 go_upto_region 1 with (first | ((with_reducible refine zaA (N := 1) rfl ?_); (try (refine zcD (by rfl) ?_; dsimp only)); refine zaN ?hg (N := 1) ?hd (cs := #[.bool a0_0, .slice A0_1 l0_1.length c0_1, .slice A0_2 l0_2.length c0_2]) (t := 41) ?hr ?_; (case hd => rfl); (case hg => rfl); (case hr => first | (go_simp; done) | (go_simp; rfl)); intro gb1 hg w3 hbox hb; have n0_ := zaa.mk (zab (lc HB.out) hb); have n1_ := zaa.mk (hbox); have n2_ := zaa.mk ((by rw [hg]; exact (zad (lc HB.out)) : w.heap.size ≤ gb1)); have n3_ := zaa.mk ((by rw [hg]; exact (zad (lc HB.out)) : w.heap.size ≤ gb1)); clear HB; have HB := n0_; have BK1 := n1_; have GW1 := n2_; have GE1 := n3_; clear n0_ n1_ n2_ n3_; clear hb hbox hg))
 (try simp only [Act.put, List.setIfInBounds_toArray, List.set_cons_zero, List.set_cons_succ])
 go_cut [14] (fun v14 wc => ∃ (kq : Nat) (x14_1 : Bool), v14 = .bool x14_1 ∧ zaa (zaw.j0 kq x14_1 a0_0 l0_1 l0_2 = some r) ∧ zaa (kq ≤ k) ∧ zaa (wc.heap[gb1]? = some (.cells #[.bool a0_0, (.slice A0_1 l0_1.length c0_1), (.slice A0_2 l0_2.length c0_2)] 41 (0, 0))) ∧ zaa (Below w.heap.size w wc))
 case first =>
  have H := HC2.out
  clear HC2
  by_cases c4 : (l0_1.length : Int) > 16
  ·rw [if_pos c4] at H
   have c4b0 : decide (16 < (l0_1.length : Int)) = true := zDT c4
   have c4b1 : decide (16 < l0_1.length) = true := decide_eq_true (by omega)
   clear c4
   (first | rw [c4b0] | (simp only [zbs, zbR]; rw [c4b0]) | skip)
   have H' := zaa.mk H
   clear H
   have hcz5_0 : w3.cell? ⟨gb1, 0, none⟩ = some (.bool a0_0) := (zah BK1.out 0).trans rfl
   have hcz5_1 : w3.cell? ⟨gb1, 1, none⟩ = some (.slice A0_1 l0_1.length c0_1) := (zah BK1.out 1).trans rfl
   have hcz5_2 : w3.cell? ⟨gb1, 2, none⟩ = some (.slice A0_2 l0_2.length c0_2) := (zah BK1.out 2).trans rfl
   have hfz5_0 := zae BK1.out 0
   have hfz5_1 := zae BK1.out 1
   have hfz5_2 := zae BK1.out 2
   go_wp2
   go_meet
   case rel => exact ⟨_, (true), rs, H', ⟨by first | omega | exact Nat.le_refl _⟩, ⟨by (with_reducible repeat (first | refine zap ?_ _ | refine zar ?_ | refine zai ?_ _)); exact BK1.out⟩, ⟨lb⟩⟩
  ·rw [if_neg c4] at H
   have c4b0 : decide (16 < (l0_1.length : Int)) = false := zDF c4
   have c4b1 : decide (16 < l0_1.length) = false := decide_eq_false (by omega)
   clear c4
   (first | rw [c4b0] | (simp only [zbs, zbR]; rw [c4b0]) | skip)
   have H' := zaa.mk H
   clear H
   have hcz6_0 : w3.cell? ⟨gb1, 0, none⟩ = some (.bool a0_0) := (zah BK1.out 0).trans rfl
   have hcz6_1 : w3.cell? ⟨gb1, 1, none⟩ = some (.slice A0_1 l0_1.length c0_1) := (zah BK1.out 1).trans rfl
   have hcz6_2 : w3.cell? ⟨gb1, 2, none⟩ = some (.slice A0_2 l0_2.length c0_2) := (zah BK1.out 2).trans rfl
   have hfz6_0 := zae BK1.out 0
   have hfz6_1 := zae BK1.out 1
   have hfz6_2 := zae BK1.out 2
   go_wp2
   go_meet
   case rel => exact ⟨_, (decide ((l0_2.length : Int) > 16)), rs, H', ⟨by first | omega | exact Nat.le_refl _⟩, ⟨by (with_reducible repeat (first | refine zap ?_ _ | refine zar ?_ | refine zai ?_ _)); exact BK1.out⟩, ⟨lb⟩⟩
 case rest =>
  clear HC2
  try clear p2
  try clear c4
  try clear c4b0
  try clear c4b1
  try clear hcz5_0
  try clear hcz5_1
  try clear hcz5_2
  try clear hcz6_0
  try clear hcz6_1
  try clear hcz6_2
  try clear hfz5_0
  try clear hfz5_1
  try clear hfz5_2
  try clear hfz6_0
  try clear hfz6_1
  try clear hfz6_2
  obtain ⟨kq, x14_1, rfl, HA, HJ1, BK1, HB⟩ := hcut
  cases kq with
  | zero => exact absurd HA.out (by simp [zaw.j0])
  | succ kj1 =>
   have H := HA.out
   clear HA
   simp only [zaw.j0] at H
   by_cases c7 : x14_1 = true
   ·subst c7
    have H1 : (some 20) = some r := by rw [if_pos rfl] at H; exact H
    clear H
    have H := H1
    clear H1
    obtain rfl := Option.some.inj H
    go_wp2
    go_ret
    exact ⟨by first | rfl | (simp [zaf, zag] <;> rfl) | (simp [*, zaf, zag] <;> rfl), lb⟩
   ·replace c7 := Bool.eq_false_iff.mpr c7
    subst c7
    have H1 : ((zbf.f kj1 l0_1 l0_2).bind fun bt2 => (if bt2.2 = 0 then (zaw.j1 kj1 bt2.1 ((l0_2.length : Int) == 0) a0_0 l0_1 l0_2) else (zaw.j1 kj1 bt2.1 true a0_0 l0_1 l0_2))) = some r := by rw [if_neg (show ¬ (false = true) by decide)] at H; exact H
    clear H
    have H := H1
    clear H1
    replace H := zBE H
    obtain ⟨⟨t2, t3⟩, A80, H⟩ := H
    replace H : (if t3 = 0 then (zaw.j1 kj1 t2 ((l0_2.length : Int) == 0) a0_0 l0_1 l0_2) else (zaw.j1 kj1 t2 true a0_0 l0_1 l0_2)) = some r := H
    have A8 := zaa.mk A80
    clear A80
    have HC9 := zaa.mk H
    clear H
    have hcz10_0 : wc.cell? ⟨gb1, 0, none⟩ = some (.bool a0_0) := (zah BK1.out 0).trans rfl
    have hcz10_1 : wc.cell? ⟨gb1, 1, none⟩ = some (.slice A0_1 l0_1.length c0_1) := (zah BK1.out 1).trans rfl
    have hcz10_2 : wc.cell? ⟨gb1, 2, none⟩ = some (.slice A0_2 l0_2.length c0_2) := (zah BK1.out 2).trans rfl
    have hfz10_0 := zae BK1.out 0
    have hfz10_1 := zae BK1.out 1
    have hfz10_2 := zae BK1.out 2
    go_upto_region 4 with (first | (go_at_call 130; (with_reducible refine (zbf.calls kj1 _ _ l0_1 _ _ l0_2 t2 t3 _ ?side1 ?side2 ?side3 ?side4 A8.out).mono ?_); (case side1 => exact cc (Kd.zaY HR0_1.out HB.out)); (case side2 => exact HC0_1.out); (case side3 => exact cc (Kd.zaY HR0_2.out HB.out)); (case side4 => exact HC0_2.out); rintro e w11 ⟨v4, rfl, ho0, hb⟩; have n0_ := zaa.mk (Kd.zaz ho0 (zad lb)); have n1_ := zaa.mk (zak (g := gb1) (o := .cells #[.bool a0_0, .slice A0_1 l0_1.length c0_1, .slice A0_2 l0_2.length c0_2] 41 (0, 0)) (bc BK1.out) hb); have n2_ := zaa.mk (zab lb hb); clear BK1; clear HB; have HO5 := n0_; have BK1 := n1_; have HB := n2_; clear n0_ n1_ n2_; (try clear hb); (try clear hb2); (try clear hk); (try clear hi); (try clear ho0)))
    (try simp only [Act.put, List.setIfInBounds_toArray, List.set_cons_zero, List.set_cons_succ])
    go_cut [23] (fun v23 wc => ∃ (kq : Nat) (x23_8 : Bool), v23 = .bool x23_8 ∧ zaa (zaw.j1 kq t2 x23_8 a0_0 l0_1 l0_2 = some r) ∧ zaa (kq ≤ kj1) ∧ zaa (Kd.R (Kd.int .u32) 109 wc w.heap.size (fun _ => True) v4 t2) ∧ zaa (wc.heap[gb1]? = some (.cells #[.bool a0_0, (.slice A0_1 l0_1.length c0_1), (.slice A0_2 l0_2.length c0_2)] 41 (0, 0))) ∧ zaa (Below w.heap.size w wc))
    case first =>
     have H := HC9.out
     clear HC9
     by_cases c12 : t3 = 0
     ·rw [if_pos c12] at H
      have c12b0 : (t3 == 0) = true := beq_iff_eq.mpr c12
      have c12b1 : (t3 != 0) = false := bne_eq_false_iff_eq.mpr c12
      clear c12
      (first | rw [c12b0] | (simp only [zbs, zbR]; rw [c12b0]) | skip)
      have H' := zaa.mk H
      clear H
      have hcz13_0 : w11.cell? ⟨gb1, 0, none⟩ = some (.bool a0_0) := (zah BK1.out 0).trans rfl
      have hcz13_1 : w11.cell? ⟨gb1, 1, none⟩ = some (.slice A0_1 l0_1.length c0_1) := (zah BK1.out 1).trans rfl
      have hcz13_2 : w11.cell? ⟨gb1, 2, none⟩ = some (.slice A0_2 l0_2.length c0_2) := (zah BK1.out 2).trans rfl
      have hfz13_0 := zae BK1.out 0
      have hfz13_1 := zae BK1.out 1
      have hfz13_2 := zae BK1.out 2
      go_wp2
      go_meet
      case rel => exact ⟨_, (((l0_2.length : Int) == 0)), rs, H', ⟨by have := HJ1.out; first | omega | exact Nat.le_refl _⟩, ⟨by (with_reducible repeat (first | apply Kd.zaQ | apply Kd.zaR | apply Kd.zbb)); exact HO5.out⟩, ⟨by (with_reducible repeat (first | refine zap ?_ _ | refine zar ?_ | refine zai ?_ _)); exact BK1.out⟩, ⟨lb⟩⟩
     ·rw [if_neg c12] at H
      have c12b0 : (t3 == 0) = false := beq_eq_false_iff_ne.mpr c12
      have c12b1 : (t3 != 0) = true := bne_iff_ne.mpr c12
      (first | rw [c12b0] | (simp only [zbs, zbR]; rw [c12b0]) | skip)
      have H' := zaa.mk H
      clear H
      go_wp2
      go_meet
      case rel => exact ⟨_, (true), rs, H', ⟨by have := HJ1.out; first | omega | exact Nat.le_refl _⟩, ⟨by (with_reducible repeat (first | apply Kd.zaQ | apply Kd.zaR | apply Kd.zbb)); exact HO5.out⟩, ⟨by (with_reducible repeat (first | refine zap ?_ _ | refine zar ?_ | refine zai ?_ _)); exact BK1.out⟩, ⟨lb⟩⟩
    case rest =>
     clear HC9
     try clear c1
     try clear p2
     try clear c4
     try clear c4b0
     try clear c4b1
     try clear c7
     try clear c8
     try clear c12
     try clear c12b0
     try clear c12b1
     try clear c13
     try clear hcz10_0
     try clear hcz10_1
     try clear hcz10_2
     try clear hcz13_0
     try clear hcz13_1
     try clear hcz13_2
     try clear hcz5_0
     try clear hcz5_1
     try clear hcz5_2
     try clear hcz6_0
     try clear hcz6_1
     try clear hcz6_2
     try clear hfz10_0
     try clear hfz10_1
     try clear hfz10_2
     try clear hfz13_0
     try clear hfz13_1
     try clear hfz13_2
     try clear hfz5_0
     try clear hfz5_1
     try clear hfz5_2
     try clear hfz6_0
     try clear hfz6_1
     try clear hfz6_2
     try clear p2
     obtain ⟨kq, x23_8, rfl, HA, HJ8, HO_3, BK1, HB⟩ := hcut
     cases kq with
     | zero => exact absurd HA.out (by simp [zaw.j1])
     | succ kj8 =>
      have H := HA.out
      clear HA
      simp only [zaw.j1] at H
      by_cases c14 : x23_8 = true
      ·subst c14
       have H1 : (some 2) = some r := by rw [if_pos rfl] at H; exact H
       clear H
       have H := H1
       clear H1
       obtain rfl := Option.some.inj H
       go_wp2
       go_ret
       exact ⟨by first | rfl | (simp [zaf, zag] <;> rfl) | (simp [*, zaf, zag] <;> rfl), lb⟩
      ·replace c14 := Bool.eq_false_iff.mpr c14
       subst c14
       have H1 : (if a0_0 = true then (zaw.j2 kj8 t2 ((l0_1.length : Int) == 0)) else (zaw.j2 kj8 t2 false)) = some r := by rw [if_neg (show ¬ (false = true) by decide)] at H; exact H
       clear H
       have H := H1
       clear H1
       have HC15 := zaa.mk H
       clear H
       go_upto_region 5 with (fail)
       go_cut [32] (fun v32 wc => ∃ (kq : Nat) (x32_14 : Bool), v32 = .bool x32_14 ∧ zaa (zaw.j2 kq t2 x32_14 = some r) ∧ zaa (kq ≤ kj8) ∧ zaa (Kd.R (Kd.int .u32) 109 wc w.heap.size (fun _ => True) v4 t2) ∧ zaa (wc.heap[gb1]? = some (.cells #[.bool a0_0, (.slice A0_1 l0_1.length c0_1), (.slice A0_2 l0_2.length c0_2)] 41 (0, 0))) ∧ zaa (Below w.heap.size w wc))
       case first =>
        have H := HC15.out
        clear HC15
        by_cases c16 : a0_0 = true
        ·subst c16
         have H1 : (zaw.j2 kj8 t2 ((l0_1.length : Int) == 0)) = some r := by rw [if_pos rfl] at H; exact H
         clear H
         have H := H1
         clear H1
         have H' := zaa.mk H
         clear H
         have hcz17_0 : wc.cell? ⟨gb1, 0, none⟩ = some (.bool true) := (zah BK1.out 0).trans rfl
         have hcz17_1 : wc.cell? ⟨gb1, 1, none⟩ = some (.slice A0_1 l0_1.length c0_1) := (zah BK1.out 1).trans rfl
         have hcz17_2 : wc.cell? ⟨gb1, 2, none⟩ = some (.slice A0_2 l0_2.length c0_2) := (zah BK1.out 2).trans rfl
         have hfz17_0 := zae BK1.out 0
         have hfz17_1 := zae BK1.out 1
         have hfz17_2 := zae BK1.out 2
         go_wp2
         go_meet
         case rel => exact ⟨_, (((l0_1.length : Int) == 0)), rs, H', ⟨by have := HJ1.out; have := HJ8.out; first | omega | exact Nat.le_refl _⟩, ⟨by (with_reducible repeat (first | apply Kd.zaQ | apply Kd.zaR | apply Kd.zbb)); exact HO_3.out⟩, ⟨by (with_reducible repeat (first | refine zap ?_ _ | refine zar ?_ | refine zai ?_ _)); exact BK1.out⟩, ⟨lb⟩⟩
        ·replace c16 := Bool.eq_false_iff.mpr c16
         subst c16
         have H1 : (zaw.j2 kj8 t2 false) = some r := by rw [if_neg (show ¬ (false = true) by decide)] at H; exact H
         clear H
         have H := H1
         clear H1
         have H' := zaa.mk H
         clear H
         have hcz18_0 : wc.cell? ⟨gb1, 0, none⟩ = some (.bool false) := (zah BK1.out 0).trans rfl
         have hcz18_1 : wc.cell? ⟨gb1, 1, none⟩ = some (.slice A0_1 l0_1.length c0_1) := (zah BK1.out 1).trans rfl
         have hcz18_2 : wc.cell? ⟨gb1, 2, none⟩ = some (.slice A0_2 l0_2.length c0_2) := (zah BK1.out 2).trans rfl
         have hfz18_0 := zae BK1.out 0
         have hfz18_1 := zae BK1.out 1
         have hfz18_2 := zae BK1.out 2
         go_wp2
         go_meet
         case rel => exact ⟨_, (false), rs, H', ⟨by have := HJ1.out; have := HJ8.out; first | omega | exact Nat.le_refl _⟩, ⟨by (with_reducible repeat (first | apply Kd.zaQ | apply Kd.zaR | apply Kd.zbb)); exact HO_3.out⟩, ⟨by (with_reducible repeat (first | refine zap ?_ _ | refine zar ?_ | refine zai ?_ _)); exact BK1.out⟩, ⟨lb⟩⟩
       case rest =>
        clear HC15
        try clear c1
        try clear p2
        try clear c4
        try clear c4b0
        try clear c4b1
        try clear c7
        try clear c8
        try clear c12
        try clear c12b0
        try clear c12b1
        try clear c13
        try clear c14
        try clear c16
        try clear hcz10_0
        try clear hcz10_1
        try clear hcz10_2
        try clear hcz13_0
        try clear hcz13_1
        try clear hcz13_2
        try clear hcz17_0
        try clear hcz17_1
        try clear hcz17_2
        try clear hcz18_0
        try clear hcz18_1
        try clear hcz18_2
        try clear hcz5_0
        try clear hcz5_1
        try clear hcz5_2
        try clear hcz6_0
        try clear hcz6_1
        try clear hcz6_2
        try clear hfz10_0
        try clear hfz10_1
        try clear hfz10_2
        try clear hfz13_0
        try clear hfz13_1
        try clear hfz13_2
        try clear hfz17_0
        try clear hfz17_1
        try clear hfz17_2
        try clear hfz18_0
        try clear hfz18_1
        try clear hfz18_2
        try clear hfz5_0
        try clear hfz5_1
        try clear hfz5_2
        try clear hfz6_0
        try clear hfz6_1
        try clear hfz6_2
        try clear p2
        obtain ⟨kq, x32_14, rfl, HA, HJ14, HO_3, BK1, HB⟩ := hcut
        cases kq with
        | zero => exact absurd HA.out (by simp [zaw.j2])
        | succ kj14 =>
         have H := HA.out
         clear HA
         simp only [zaw.j2] at H
         by_cases c19 : x32_14 = true
         ·subst c19
          have H1 : (some 2) = some r := by rw [if_pos rfl] at H; exact H
          clear H
          have H := H1
          clear H1
          obtain rfl := Option.some.inj H
          go_wp2
          go_ret
          exact ⟨by first | rfl | (simp [zaf, zag] <;> rfl) | (simp [*, zaf, zag] <;> rfl), lb⟩
         ·replace c19 := Bool.eq_false_iff.mpr c19
          subst c19
          have H1 : ((zbL.f kj14).bind fun t6 => ((zal.f kj14 t2 t6).bind fun t9 => (if t9 = true then (some 0) else (some 2)))) = some r := by rw [if_neg (show ¬ (false = true) by decide)] at H; exact H
          clear H
          have H := H1
          clear H1
          replace H := zBE H
          obtain ⟨t6, A200, H⟩ := H
          replace H : ((zal.f kj14 t2 t6).bind fun t9 => (if t9 = true then (some 0) else (some 2))) = some r := H
          have A20 := zaa.mk A200
          clear A200
          replace H := zBE H
          obtain ⟨t9, A210, H⟩ := H
          replace H : (if t9 = true then (some 0) else (some 2)) = some r := H
          have A21 := zaa.mk A210
          clear A210
          by_cases c22 : t9 = true
          ·subst c22
           have H1 : (some 0) = some r := by rw [if_pos rfl] at H; exact H
           clear H
           have H := H1
           clear H1
           obtain rfl := Option.some.inj H
           go_wp2_with (first | (go_at_call 132; (with_reducible refine (zbL.calls kj14  t6 _ A20.out).mono ?_); rintro e w23 ⟨v7, rfl, ho0, hb⟩; have n0_ := zaa.mk (Kd.zaS (rc HO_3.out) hb); have n1_ := zaa.mk (Kd.zbU (Kd.zbH (ok' := fun k_ => some k_ ≠ (v4 : Value).ownBlock ∧ k_ ≠ gb1) ho0 (fun k_ hk_ => ⟨(Kd.zop (Kd.zcH (rc HO_3.out)) k_ hk_), (Kd.ze1 (g := gb1) (o := .cells #[.bool a0_0, .slice A0_1 l0_1.length c0_1, .slice A0_2 l0_2.length c0_2] 41 (0, 0)) (bc BK1.out) k_ hk_)⟩)) (zad lb)); have n2_ := zaa.mk (zak (g := gb1) (o := .cells #[.bool a0_0, .slice A0_1 l0_1.length c0_1, .slice A0_2 l0_2.length c0_2] 41 (0, 0)) (bc BK1.out) hb); have n3_ := zaa.mk (zab lb hb); clear HO_3; clear BK1; clear HB; have HO_3 := n0_; have HO8 := n1_; have BK1 := n2_; have HB := n3_; clear n0_ n1_ n2_ n3_; (try clear hb); (try clear hb2); (try clear hk); (try clear hi); (try clear ho0); obtain ⟨Ao24, co24, eo24⟩ := Kd.zaC HO_3.out; subst eo24; obtain ⟨Ao25, co25, eo25⟩ := Kd.zbe HO8.out; subst eo25) | (go_at_call 131; (with_reducible refine (zal.calls kj14 _ _ t2 _ _ t6 true _ ?side1 ?side2 ?side3 ?side4 A21.out).mono ?_); (case side1 => exact cc (Kd.zax HO_3.out).2.2); (case side2 => exact (Kd.zax HO_3.out).2.1); (case side3 => exact cc (Kd.zaq HO8.out).2.2); (case side4 => exact (Kd.zaq HO8.out).2.1); rintro e w' ⟨rfl, ⟨nd, rfl⟩⟩))
           go_ret
           exact ⟨by first | rfl | (simp [zaf, zag] <;> rfl) | (simp [*, zaf, zag] <;> rfl), lb⟩
          ·replace c22 := Bool.eq_false_iff.mpr c22
           subst c22
           have H1 : (some 2) = some r := by rw [if_neg (show ¬ (false = true) by decide)] at H; exact H
           clear H
           have H := H1
           clear H1
           obtain rfl := Option.some.inj H
           go_wp2_with (first | (go_at_call 132; (with_reducible refine (zbL.calls kj14  t6 _ A20.out).mono ?_); rintro e w26 ⟨v7, rfl, ho0, hb⟩; have n0_ := zaa.mk (Kd.zaS (rc HO_3.out) hb); have n1_ := zaa.mk (Kd.zbU (Kd.zbH (ok' := fun k_ => some k_ ≠ (v4 : Value).ownBlock ∧ k_ ≠ gb1) ho0 (fun k_ hk_ => ⟨(Kd.zop (Kd.zcH (rc HO_3.out)) k_ hk_), (Kd.ze1 (g := gb1) (o := .cells #[.bool a0_0, .slice A0_1 l0_1.length c0_1, .slice A0_2 l0_2.length c0_2] 41 (0, 0)) (bc BK1.out) k_ hk_)⟩)) (zad lb)); have n2_ := zaa.mk (zak (g := gb1) (o := .cells #[.bool a0_0, .slice A0_1 l0_1.length c0_1, .slice A0_2 l0_2.length c0_2] 41 (0, 0)) (bc BK1.out) hb); have n3_ := zaa.mk (zab lb hb); clear HO_3; clear BK1; clear HB; have HO_3 := n0_; have HO8 := n1_; have BK1 := n2_; have HB := n3_; clear n0_ n1_ n2_ n3_; (try clear hb); (try clear hb2); (try clear hk); (try clear hi); (try clear ho0); obtain ⟨Ao27, co27, eo27⟩ := Kd.zaC HO_3.out; subst eo27; obtain ⟨Ao28, co28, eo28⟩ := Kd.zbe HO8.out; subst eo28) | (go_at_call 131; (with_reducible refine (zal.calls kj14 _ _ t2 _ _ t6 false _ ?side1 ?side2 ?side3 ?side4 A21.out).mono ?_); (case side1 => exact cc (Kd.zax HO_3.out).2.2); (case side2 => exact (Kd.zax HO_3.out).2.1); (case side3 => exact cc (Kd.zaq HO8.out).2.2); (case side4 => exact (Kd.zaq HO8.out).2.1); rintro e w' ⟨rfl, ⟨nd, rfl⟩⟩))
           go_ret
           exact ⟨by first | rfl | (simp [zaf, zag] <;> rfl) | (simp [*, zaf, zag] <;> rfl), lb⟩
def zbv.f (k : Nat) (a0_0 : Bool) (l0_1 : List Int) (l0_2 : List Int) (a1_0 : Bool) (l1_1 : List Int) (l1_2 : List Int) : Option (Int) := (zaw.f k a0_0 l0_1 l0_2).bind fun t3 => (if t3 = 0 then ((zaw.f k a1_0 l1_1 l1_2).bind fun t4 => (some t4)) else (some t3))
theorem zbv.mono : ∀ a0 a1 a2 a3 a4 a5 k, LeO (zbv.f k a0 a1 a2 a3 a4 a5) (zbv.f (k + 1) a0 a1 a2 a3 a4 a5) := by
 intro a0 a1 a2 a3 a4 a5 k
 unfold zbv.f
 repeat' with_reducible first | exact zaw.mono _ _ _ _ | exact LeO.refl _ | exact LeO.none _ | refine LeO.ite ?_ ?_ | refine LeO.bind ?_ (fun _ => ?_)
theorem zbv.calls (k : Nat) (a0_0 : Bool) (A0_1 : Option Addr) (c0_1 : Nat) (l0_1 : List Int) (A0_2 : Option Addr) (c0_2 : Nat) (l0_2 : List Int) (a1_0 : Bool) (A1_1 : Option Addr) (c1_1 : Nat) (l1_1 : List Int) (A1_2 : Option Addr) (c1_2 : Nat) (l1_2 : List Int) (r : Int) (w : World) (hr0_1 : Kd.C (Kd.int .u32) w A0_1 l0_1.length l0_1) (hc0_1 : l0_1.length ≤ c0_1) (hr0_2 : Kd.C (Kd.int .u32) w A0_2 l0_2.length l0_2) (hc0_2 : l0_2.length ≤ c0_2) (hr1_1 : Kd.C (Kd.int .u32) w A1_1 l1_1.length l1_1) (hc1_1 : l1_1.length ≤ c1_1) (hr1_2 : Kd.C (Kd.int .u32) w A1_2 l1_2.length l1_2) (hc1_2 : l1_2.length ≤ c1_2) (h : zbv.f k a0_0 l0_1 l0_2 a1_0 l1_1 l1_2 = some r) :
  Calls Tryz.prog 143 #[.agg #[.bool a0_0, .slice A0_1 l0_1.length c0_1, .slice A0_2 l0_2.length c0_2], .agg #[.bool a1_0, .slice A1_1 l1_1.length c1_1, .slice A1_2 l1_2.length c1_2]] w fun e w' => e = .returned (.int .i64 r) ∧ Below w.heap.size w w' := by
 have hu41 := Tryz.underlying41
 have HR0_1 := zaa.mk hr0_1
 have HC0_1 := zaa.mk hc0_1
 clear hr0_1 hc0_1
 have HR0_2 := zaa.mk hr0_2
 have HC0_2 := zaa.mk hc0_2
 clear hr0_2 hc0_2
 have HR1_1 := zaa.mk hr1_1
 have HC1_1 := zaa.mk hc1_1
 clear hr1_1 hc1_1
 have HR1_2 := zaa.mk hr1_2
 have HC1_2 := zaa.mk hc1_2
 clear hr1_2 hc1_2
 have HB := zaa.mk (Below.refl w.heap.size w)
 have H : ((zaw.f k a0_0 l0_1 l0_2).bind fun t3 => (if t3 = 0 then ((zaw.f k a1_0 l1_1 l1_2).bind fun t4 => (some t4)) else (some t3))) = some r := h
 clear h
 replace H := zBE H
 obtain ⟨t3, A30, H⟩ := H
 replace H : (if t3 = 0 then ((zaw.f k a1_0 l1_1 l1_2).bind fun t4 => (some t4)) else (some t3)) = some r := H
 have A3 := zaa.mk A30
 clear A30
 by_cases c4 : t3 = 0
 ·rw [if_pos c4] at H
  have c4b0 : (t3 == 0) = true := beq_iff_eq.mpr c4
  have c4b1 : (t3 != 0) = false := bne_eq_false_iff_eq.mpr c4
  clear c4
  replace H := zBE H
  obtain ⟨t4, A50, H⟩ := H
  replace H : (some t4) = some r := H
  have A5 := zaa.mk A50
  clear A50
  obtain rfl := Option.some.inj H
  go_enter Tryz.func143, Tryz.ntmps143
  go_wp2_with (first | ((with_reducible refine zaA (N := 2) rfl ?_); refine zaN ?hg (N := 2) ?hd (cs := #[.bool a0_0, .slice A0_1 l0_1.length c0_1, .slice A0_2 l0_2.length c0_2]) (t := 41) ?hr ?_; (case hd => rfl); (case hg => rfl); (case hr => first | (go_simp; done) | (go_simp; rfl)); intro gb1 hg w6 hbox hb; have n0_ := zaa.mk (zab (lc HB.out) hb); have n1_ := zaa.mk (hbox); have n2_ := zaa.mk ((by rw [hg]; exact (zad (lc HB.out)) : w.heap.size ≤ gb1)); have n3_ := zaa.mk ((by rw [hg]; exact (zad (lc HB.out)) : w.heap.size ≤ gb1)); clear HB; have HB := n0_; have BK1 := n1_; have GW1 := n2_; have GE1 := n3_; clear n0_ n1_ n2_ n3_; clear hb hbox hg) | ((with_reducible refine zaA (N := 3) rfl ?_); refine zaN ?hg (N := 3) ?hd (cs := #[.bool a1_0, .slice A1_1 l1_1.length c1_1, .slice A1_2 l1_2.length c1_2]) (t := 41) ?hr ?_; (case hd => rfl); (case hg => rfl); (case hr => first | (go_simp; done) | (go_simp; rfl)); intro gb2 hg w7 hbox hb; have n0_ := zaa.mk (zak (g := gb1) (o := .cells #[.bool a0_0, .slice A0_1 l0_1.length c0_1, .slice A0_2 l0_2.length c0_2] 41 (0, 0)) (bc BK1.out) hb); have n1_ := zaa.mk (zab lb hb); have n2_ := zaa.mk (hbox); have n3_ := zaa.mk ((by rw [hg]; exact (zad lb) : w.heap.size ≤ gb2)); have n4_ := zaa.mk ((by rw [hg]; exact (zad lb) : w.heap.size ≤ gb2)); have n5_ := zaa.mk ((by rw [hg]; exact Nat.ne_of_lt (zbg (g := gb1) (o := .cells #[.bool a0_0, .slice A0_1 l0_1.length c0_1, .slice A0_2 l0_2.length c0_2] 41 (0, 0)) (bc BK1.out)) : gb1 ≠ gb2)); have n6_ := zaa.mk ((by rw [hg]; exact Nat.ne_of_gt (zbg (g := gb1) (o := .cells #[.bool a0_0, .slice A0_1 l0_1.length c0_1, .slice A0_2 l0_2.length c0_2] 41 (0, 0)) (bc BK1.out)) : gb2 ≠ gb1)); clear BK1; clear HB; have BK1 := n0_; have HB := n1_; have BK2 := n2_; have GW2 := n3_; have GE2 := n4_; have NB1_2 := n5_; have NB2_1 := n6_; clear n0_ n1_ n2_ n3_ n4_ n5_ n6_; clear hb hbox hg; have hnb8 := NB1_2.out; have hnc8 := NB2_1.out; have hcz9_0 : w7.cell? ⟨gb1, 0, none⟩ = some (.bool a0_0) := (zah BK1.out 0).trans rfl; have hcz9_1 : w7.cell? ⟨gb1, 1, none⟩ = some (.slice A0_1 l0_1.length c0_1) := (zah BK1.out 1).trans rfl; have hcz9_2 : w7.cell? ⟨gb1, 2, none⟩ = some (.slice A0_2 l0_2.length c0_2) := (zah BK1.out 2).trans rfl; have hfz9_0 := zae BK1.out 0; have hfz9_1 := zae BK1.out 1; have hfz9_2 := zae BK1.out 2) | (go_at_call 89; (with_reducible refine (zaw.calls k a0_0 _ _ l0_1 _ _ l0_2 t3 _ ?side1 ?side2 ?side3 ?side4 A3.out).mono ?_); (case side1 => exact cc (Kd.zaY HR0_1.out HB.out)); (case side2 => exact HC0_1.out); (case side3 => exact cc (Kd.zaY HR0_2.out HB.out)); (case side4 => exact HC0_2.out); rintro e w10 ⟨rfl, hb⟩; have n0_ := zaa.mk (zak (g := gb1) (o := .cells #[.bool a0_0, .slice A0_1 l0_1.length c0_1, .slice A0_2 l0_2.length c0_2] 41 (0, 0)) (bc BK1.out) hb); have n1_ := zaa.mk (zak (g := gb2) (o := .cells #[.bool a1_0, .slice A1_1 l1_1.length c1_1, .slice A1_2 l1_2.length c1_2] 41 (0, 0)) (bc BK2.out) hb); have n2_ := zaa.mk (zab lb hb); clear BK1; clear BK2; clear HB; have BK1 := n0_; have BK2 := n1_; have HB := n2_; clear n0_ n1_ n2_; (try clear hb); (try clear hb2); (try clear hk); (try clear hi); have hcz11_0 : w10.cell? ⟨gb2, 0, none⟩ = some (.bool a1_0) := (zah BK2.out 0).trans rfl; have hcz11_1 : w10.cell? ⟨gb2, 1, none⟩ = some (.slice A1_1 l1_1.length c1_1) := (zah BK2.out 1).trans rfl; have hcz11_2 : w10.cell? ⟨gb2, 2, none⟩ = some (.slice A1_2 l1_2.length c1_2) := (zah BK2.out 2).trans rfl; have hfz11_0 := zae BK2.out 0; have hfz11_1 := zae BK2.out 1; have hfz11_2 := zae BK2.out 2) | (go_at_call 89; (with_reducible refine (zaw.calls k a1_0 _ _ l1_1 _ _ l1_2 t4 _ ?side1 ?side2 ?side3 ?side4 A5.out).mono ?_); (case side1 => exact cc (Kd.zaY HR1_1.out HB.out)); (case side2 => exact HC1_1.out); (case side3 => exact cc (Kd.zaY HR1_2.out HB.out)); (case side4 => exact HC1_2.out); rintro e w12 ⟨rfl, hb⟩; have n0_ := zaa.mk (zak (g := gb1) (o := .cells #[.bool a0_0, .slice A0_1 l0_1.length c0_1, .slice A0_2 l0_2.length c0_2] 41 (0, 0)) (bc BK1.out) hb); have n1_ := zaa.mk (zak (g := gb2) (o := .cells #[.bool a1_0, .slice A1_1 l1_1.length c1_1, .slice A1_2 l1_2.length c1_2] 41 (0, 0)) (bc BK2.out) hb); have n2_ := zaa.mk (zab lb hb); clear BK1; clear BK2; clear HB; have BK1 := n0_; have BK2 := n1_; have HB := n2_; clear n0_ n1_ n2_; (try clear hb); (try clear hb2); (try clear hk); (try clear hi)))
  go_ret
  exact ⟨by first | rfl | (simp [zaf, zag] <;> rfl) | (simp [*, zaf, zag] <;> rfl), lb⟩
 ·rw [if_neg c4] at H
  have c4b0 : (t3 == 0) = false := beq_eq_false_iff_ne.mpr c4
  have c4b1 : (t3 != 0) = true := bne_iff_ne.mpr c4
  obtain rfl := Option.some.inj H
  go_enter Tryz.func143, Tryz.ntmps143
  go_wp2_with (first | ((with_reducible refine zaA (N := 2) rfl ?_); refine zaN ?hg (N := 2) ?hd (cs := #[.bool a0_0, .slice A0_1 l0_1.length c0_1, .slice A0_2 l0_2.length c0_2]) (t := 41) ?hr ?_; (case hd => rfl); (case hg => rfl); (case hr => first | (go_simp; done) | (go_simp; rfl)); intro gb1 hg w13 hbox hb; have n0_ := zaa.mk (zab (lc HB.out) hb); have n1_ := zaa.mk (hbox); have n2_ := zaa.mk ((by rw [hg]; exact (zad (lc HB.out)) : w.heap.size ≤ gb1)); have n3_ := zaa.mk ((by rw [hg]; exact (zad (lc HB.out)) : w.heap.size ≤ gb1)); clear HB; have HB := n0_; have BK1 := n1_; have GW1 := n2_; have GE1 := n3_; clear n0_ n1_ n2_ n3_; clear hb hbox hg) | ((with_reducible refine zaA (N := 3) rfl ?_); refine zaN ?hg (N := 3) ?hd (cs := #[.bool a1_0, .slice A1_1 l1_1.length c1_1, .slice A1_2 l1_2.length c1_2]) (t := 41) ?hr ?_; (case hd => rfl); (case hg => rfl); (case hr => first | (go_simp; done) | (go_simp; rfl)); intro gb2 hg w14 hbox hb; have n0_ := zaa.mk (zak (g := gb1) (o := .cells #[.bool a0_0, .slice A0_1 l0_1.length c0_1, .slice A0_2 l0_2.length c0_2] 41 (0, 0)) (bc BK1.out) hb); have n1_ := zaa.mk (zab lb hb); have n2_ := zaa.mk (hbox); have n3_ := zaa.mk ((by rw [hg]; exact (zad lb) : w.heap.size ≤ gb2)); have n4_ := zaa.mk ((by rw [hg]; exact (zad lb) : w.heap.size ≤ gb2)); have n5_ := zaa.mk ((by rw [hg]; exact Nat.ne_of_lt (zbg (g := gb1) (o := .cells #[.bool a0_0, .slice A0_1 l0_1.length c0_1, .slice A0_2 l0_2.length c0_2] 41 (0, 0)) (bc BK1.out)) : gb1 ≠ gb2)); have n6_ := zaa.mk ((by rw [hg]; exact Nat.ne_of_gt (zbg (g := gb1) (o := .cells #[.bool a0_0, .slice A0_1 l0_1.length c0_1, .slice A0_2 l0_2.length c0_2] 41 (0, 0)) (bc BK1.out)) : gb2 ≠ gb1)); clear BK1; clear HB; have BK1 := n0_; have HB := n1_; have BK2 := n2_; have GW2 := n3_; have GE2 := n4_; have NB1_2 := n5_; have NB2_1 := n6_; clear n0_ n1_ n2_ n3_ n4_ n5_ n6_; clear hb hbox hg; have hnb15 := NB1_2.out; have hnc15 := NB2_1.out; have hcz16_0 : w14.cell? ⟨gb1, 0, none⟩ = some (.bool a0_0) := (zah BK1.out 0).trans rfl; have hcz16_1 : w14.cell? ⟨gb1, 1, none⟩ = some (.slice A0_1 l0_1.length c0_1) := (zah BK1.out 1).trans rfl; have hcz16_2 : w14.cell? ⟨gb1, 2, none⟩ = some (.slice A0_2 l0_2.length c0_2) := (zah BK1.out 2).trans rfl; have hfz16_0 := zae BK1.out 0; have hfz16_1 := zae BK1.out 1; have hfz16_2 := zae BK1.out 2) | (go_at_call 89; (with_reducible refine (zaw.calls k a0_0 _ _ l0_1 _ _ l0_2 t3 _ ?side1 ?side2 ?side3 ?side4 A3.out).mono ?_); (case side1 => exact cc (Kd.zaY HR0_1.out HB.out)); (case side2 => exact HC0_1.out); (case side3 => exact cc (Kd.zaY HR0_2.out HB.out)); (case side4 => exact HC0_2.out); rintro e w17 ⟨rfl, hb⟩; have n0_ := zaa.mk (zak (g := gb1) (o := .cells #[.bool a0_0, .slice A0_1 l0_1.length c0_1, .slice A0_2 l0_2.length c0_2] 41 (0, 0)) (bc BK1.out) hb); have n1_ := zaa.mk (zak (g := gb2) (o := .cells #[.bool a1_0, .slice A1_1 l1_1.length c1_1, .slice A1_2 l1_2.length c1_2] 41 (0, 0)) (bc BK2.out) hb); have n2_ := zaa.mk (zab lb hb); clear BK1; clear BK2; clear HB; have BK1 := n0_; have BK2 := n1_; have HB := n2_; clear n0_ n1_ n2_; (try clear hb); (try clear hb2); (try clear hk); (try clear hi)))
  go_ret
  exact ⟨by first | rfl | (simp [zaf, zag] <;> rfl) | (simp [*, zaf, zag] <;> rfl), lb⟩
def zcM.f (k : Nat) (l0 : List Int) (l1 : List Int) : Option (List Int × Int) := (zby.f l0 l1).bind fun t1 => (if t1 = 0 then ((zaG.f k l0 l1).bind fun t2 => (some (t2, 0))) else (some (([] : List Int), t1)))
theorem zcM.mono : ∀ a0 a1 k, LeO (zcM.f k a0 a1) (zcM.f (k + 1) a0 a1) := by
 intro a0 a1 k
 unfold zcM.f
 repeat' with_reducible first | exact zaG.mono _ _ _ | exact LeO.refl _ | exact LeO.none _ | refine LeO.ite ?_ ?_ | refine LeO.bind ?_ (fun _ => ?_)
theorem zcM.calls (k : Nat) (A0 : Option Addr) (c0 : Nat) (l0 : List Int) (A1 : Option Addr) (c1 : Nat) (l1 : List Int) (r1 : List Int) (r2 : Int) (w : World) (hr0 : Kd.C (Kd.int .u32) w A0 l0.length l0) (hc0 : l0.length ≤ c0) (hr1 : Kd.C (Kd.int .u32) w A1 l1.length l1) (hc1 : l1.length ≤ c1) (h : zcM.f k l0 l1 = some (r1, r2)) :
  Calls Tryz.prog 170 #[.slice A0 l0.length c0, .slice A1 l1.length c1] w fun e w' => ∃ v0_ : Value, e = .returned (.tuple #[v0_, .int .i64 r2]) ∧ Kd.V (Kd.int .u32) 109 w' w.heap.size (fun k_ => (w.heap.size ≤ k_)) v0_ r1 ∧ Below w.heap.size w w' := by
 have HR0 := zaa.mk hr0
 have HC0 := zaa.mk hc0
 clear hr0 hc0
 have HR1 := zaa.mk hr1
 have HC1 := zaa.mk hc1
 clear hr1 hc1
 have HB := zaa.mk (Below.refl w.heap.size w)
 have H : ((zby.f l0 l1).bind fun t1 => (if t1 = 0 then ((zaG.f k l0 l1).bind fun t2 => (some (t2, 0))) else (some (([] : List Int), t1)))) = some (r1, r2) := h
 clear h
 replace H := zBE H
 obtain ⟨t1, A30, H⟩ := H
 replace H : (if t1 = 0 then ((zaG.f k l0 l1).bind fun t2 => (some (t2, 0))) else (some (([] : List Int), t1))) = some (r1, r2) := H
 have A3 := zaa.mk A30
 clear A30
 by_cases c4 : t1 = 0
 ·rw [if_pos c4] at H
  have c4b0 : (t1 == 0) = true := beq_iff_eq.mpr c4
  have c4b1 : (t1 != 0) = false := bne_eq_false_iff_eq.mpr c4
  clear c4
  replace H := zBE H
  obtain ⟨t2, A50, H⟩ := H
  replace H : (some (t2, 0)) = some (r1, r2) := H
  have A5 := zaa.mk A50
  clear A50
  simp only [Option.some.injEq, Prod.mk.injEq] at H
  obtain ⟨rfl, rfl⟩ := H
  go_enter Tryz.func170, Tryz.ntmps170
  go_wp2_with (first | (go_at_call 163; (with_reducible refine (zby.calls _ _ l0 _ _ l1 t1 _ ?side1 ?side2 ?side3 ?side4 A3.out).mono ?_); (case side1 => exact cc HR0.out); (case side2 => exact HC0.out); (case side3 => exact cc HR1.out); (case side4 => exact HC1.out); rintro e w' ⟨rfl, ⟨nd, rfl⟩⟩) | (go_at_call 136; (with_reducible refine (zaG.calls k _ _ l0 _ _ l1 t2 _ ?side1 ?side2 ?side3 ?side4 A5.out).mono ?_); (case side1 => exact cc HR0.out); (case side2 => exact HC0.out); (case side3 => exact cc HR1.out); (case side4 => exact HC1.out); rintro e w6 ⟨v3, rfl, ho0, hb⟩; have n0_ := zaa.mk (Kd.zbU (Kd.zbH (ok' := fun k_ => (w.heap.size ≤ k_)) ho0 (fun k_ hk_ => (Nat.le_trans (zad (lc HB.out)) hk_))) (zad (lc HB.out))); have n1_ := zaa.mk (zab (lc HB.out) hb); clear HB; have HO4 := n0_; have HB := n1_; clear n0_ n1_; (try clear hb); (try clear hb2); (try clear hk); (try clear hi); (try clear ho0)))
  go_ret2
  exact ⟨_, by first | rfl | (simp [zaf, zag] <;> rfl) | (simp [*, zaf, zag] <;> rfl), by (with_reducible repeat (first | apply Kd.zaZ | apply Kd.zbr | apply Kd.zbI)); exact HO4.out, lb⟩
 ·rw [if_neg c4] at H
  have c4b0 : (t1 == 0) = false := beq_eq_false_iff_ne.mpr c4
  have c4b1 : (t1 != 0) = true := bne_iff_ne.mpr c4
  simp only [Option.some.injEq, Prod.mk.injEq] at H
  obtain ⟨rfl, rfl⟩ := H
  go_enter Tryz.func170, Tryz.ntmps170
  go_wp2_with (first | (go_at_call 163; (with_reducible refine (zby.calls _ _ l0 _ _ l1 t1 _ ?side1 ?side2 ?side3 ?side4 A3.out).mono ?_); (case side1 => exact cc HR0.out); (case side2 => exact HC0.out); (case side3 => exact cc HR1.out); (case side4 => exact HC1.out); rintro e w' ⟨rfl, ⟨nd, rfl⟩⟩))
  go_ret2
  exact ⟨_, by first | rfl | (simp [zaf, zag] <;> rfl) | (simp [*, zaf, zag] <;> rfl), (Kd.zcA _ _ _ _ _), lb⟩
def zas.l0 : Nat → List Int → List (List Int) → Int → Int → Option (List Int)
 | 0, _, _, _, _ => none
 | k + 1, x3, x9, x10, x11 => if x11 < x10 then (if 0 ≤ x11 then (if x11 < (x9.length : Int) then ((zcM.f k x3 (zjG x9 x11)).bind fun bt5 => (if bt5.2 = 0 then (zas.l0 k bt5.1 x9 x10 (wrap64 (x11 + 1))) else (some ([] : List Int)))) else (none)) else (none)) else (some x3)
def zas.f (k : Nat) (l0 : List (List Int)) : Option (List Int) := (zbL.f k).bind fun t1 => (zas.l0 k t1 l0 (l0.length : Int) 0)
theorem zas.zbp : ∀ k, (∀ y0 y1 y2 y3, LeO (zas.l0 k y0 y1 y2 y3) (zas.l0 (k + 1) y0 y1 y2 y3))
 | 0 => fun _ _ _ _ r h => by simp [zas.l0] at h
 | k + 1 => by
  have ih0 := zas.zbp k
  ·intro y0 y1 y2 y3
   unfold zas.l0
   repeat' with_reducible first | exact ih0 _ _ _ _ | exact zcM.mono _ _ _ | exact zbL.mono _ | exact LeO.refl _ | exact LeO.none _ | refine LeO.ite ?_ ?_ | refine LeO.bind ?_ (fun _ => ?_)
theorem zas.mono : ∀ a0 k, LeO (zas.f k a0) (zas.f (k + 1) a0) := by
 intro a0 k
 have ih0 := zas.zbp k
 unfold zas.f
 repeat' with_reducible first | exact ih0 _ _ _ _ | exact zcM.mono _ _ _ | exact zbL.mono _ | exact LeO.refl _ | exact LeO.none _ | refine LeO.ite ?_ ?_ | refine LeO.bind ?_ (fun _ => ?_)
theorem zas.calls (k : Nat) (A0 : Option Addr) (c0 : Nat) (l0 : List (List Int)) (r : List Int) (w : World) (hr0 : Kd.C (Kd.slice 109 (Kd.int .u32)) w A0 l0.length l0) (hc0 : l0.length ≤ c0) (h : zas.f k l0 = some r) :
  Calls Tryz.prog 144 #[.slice A0 l0.length c0] w fun e w' => ∃ v0_ : Value, e = .returned (v0_) ∧ Kd.V (Kd.int .u32) 109 w' w.heap.size (fun k_ => (w.heap.size ≤ k_)) v0_ r ∧ Below w.heap.size w w' := by
 have HR0 := zaa.mk hr0
 have HC0 := zaa.mk hc0
 clear hr0 hc0
 have HB := zaa.mk (Below.refl w.heap.size w)
 have H : ((zbL.f k).bind fun t1 => (zas.l0 k t1 l0 (l0.length : Int) 0)) = some r := h
 clear h
 replace H := zBE H
 obtain ⟨t1, A20, H⟩ := H
 replace H : (zas.l0 k t1 l0 (l0.length : Int) 0) = some r := H
 have A2 := zaa.mk A20
 clear A20
 have H' := zaa.mk H
 clear H
 go_enter Tryz.func144, Tryz.ntmps144
 go_wp2_with (first | (go_at_call 132; (with_reducible refine (zbL.calls k  t1 _ A2.out).mono ?_); rintro e w3 ⟨v2, rfl, ho0, hb⟩; have n0_ := zaa.mk (Kd.zbU (Kd.zbH (ok' := fun k_ => (w.heap.size ≤ k_)) ho0 (fun k_ hk_ => (Nat.le_trans (zad (lc HB.out)) hk_))) (zad (lc HB.out))); have n1_ := zaa.mk (zab (lc HB.out) hb); clear HB; have HO3 := n0_; have HB := n1_; clear n0_ n1_; (try clear hb); (try clear hb2); (try clear hk); (try clear hi); (try clear ho0)))
 go_loopg [3, 11] k (fun kq v3 v11 w' => ∃ (x3_1 : List Int) (x11_1 : Int), v11 = .int .i64 x11_1 ∧ zaa (zas.l0 kq x3_1 l0 (l0.length : Int) x11_1 = some r) ∧ zaa (kq ≤ k) ∧ zaa (Kd.V (Kd.int .u32) 109 w' w.heap.size (fun k_ => (w.heap.size ≤ k_)) v3 x3_1) ∧ zaa (Below w.heap.size w w'))
 case atStart => exact ⟨(t1), (0), rs, H', ⟨Nat.le_refl _⟩, ⟨by (with_reducible repeat (first | apply Kd.zaZ | apply Kd.zbr | apply Kd.zbI)); exact HO3.out⟩, ⟨lb⟩⟩
 case round =>
  clear H'
  try clear c1
  try clear p2
  obtain ⟨x3_1, x11_1, rfl, HA, HK1, HO_3, HB⟩ := hrel
  cases gk with
  | zero => exact absurd HA.out (by simp [zas.l0])
  | succ k1 =>
   have H := HA.out
   clear HA
   simp only [zas.l0] at H
   by_cases c4 : x11_1 < (l0.length : Int)
   ·rw [if_pos c4] at H
    have c4b0 : decide (x11_1 < (l0.length : Int)) = true := zDT c4
    clear c4
    by_cases c5 : 0 ≤ x11_1
    ·rw [if_pos c5] at H
     have c5b0 : decide (0 ≤ x11_1) = true := zDT c5
     clear c5
     by_cases c6 : x11_1 < (l0.length : Int)
     ·rw [if_pos c6] at H
      have c6b0 : decide (x11_1 < (l0.length : Int)) = true := zDT c6
      clear c6
      replace H := zBE H
      obtain ⟨⟨t5, t8⟩, A70, H⟩ := H
      replace H : (if t8 = 0 then (zas.l0 k1 t5 l0 (l0.length : Int) (wrap64 (x11_1 + 1))) else (some ([] : List Int))) = some r := H
      have A7 := zaa.mk A70
      clear A70
      by_cases c8 : t8 = 0
      ·rw [if_pos c8] at H
       have c8b0 : (t8 == 0) = true := beq_iff_eq.mpr c8
       have c8b1 : (t8 != 0) = false := bne_eq_false_iff_eq.mpr c8
       clear c8
       have H' := zaa.mk H
       clear H
       have p4 : 0 ≤ (x11_1 : Int) := zDO (by first | (with_reducible assumption) | assumption)
       have q4 : x11_1 < (l0.length : Int) := zDO (by first | (with_reducible assumption) | assumption)
       obtain ⟨ad4, A4_0, c4_0, e4, hx4_0, hl4_0, hi4_0⟩ := zqf HR0.out x11_1 p4 q4
       cases e4
       replace hx4_0 := (HB.out.cell (World.block_lt_of_cell? w _ hx4_0)).trans hx4_0
       have HR4_0 := zaa.mk hi4_0
       have HC4_0 := zaa.mk hl4_0
       clear hi4_0 hl4_0
       replace p4 := eq_true p4
       replace q4 := eq_true q4
       obtain ⟨Ao9, co9, eo9⟩ := Kd.zbe HO_3.out
       subst eo9
       go_wp2_with (first | (go_at_call 170; (with_reducible refine (zcM.calls k1 _ _ x3_1 _ _ (zjG l0 x11_1) t5 t8 _ ?side1 ?side2 ?side3 ?side4 A7.out).mono ?_); (case side1 => exact cc (Kd.zaq HO_3.out).2.2); (case side2 => exact (Kd.zaq HO_3.out).2.1); (case side3 => exact cc (Kd.zaY HR4_0.out HB.out)); (case side4 => exact HC4_0.out); rintro e w10 ⟨v6, rfl, ho0, hb⟩; have n0_ := zaa.mk (Kd.zaW (vc HO_3.out) hb); have n1_ := zaa.mk (Kd.zbU (Kd.zbH (ok' := fun k_ => (w.heap.size ≤ k_)) ho0 (fun k_ hk_ => (Nat.le_trans (zad (lc HB.out)) hk_))) (zad (lc HB.out))); have n2_ := zaa.mk (zab (lc HB.out) hb); clear HO_3; clear HB; have HO_3 := n0_; have HO7 := n1_; have HB := n2_; clear n0_ n1_ n2_; (try clear hb); (try clear hb2); (try clear hk); (try clear hi); (try clear ho0)))
       go_roundg k1
       case measure => have := HK1.out; omega
       case rel => exact ⟨(t5), (wrap64 (x11_1 + 1)), rs, H', ⟨by have := HK1.out; omega⟩, ⟨by (with_reducible repeat (first | apply Kd.zaZ | apply Kd.zbr | apply Kd.zbI)); exact HO7.out⟩, ⟨lb⟩⟩
      ·rw [if_neg c8] at H
       have c8b0 : (t8 == 0) = false := beq_eq_false_iff_ne.mpr c8
       have c8b1 : (t8 != 0) = true := bne_iff_ne.mpr c8
       obtain rfl := Option.some.inj H
       have p4 : 0 ≤ (x11_1 : Int) := zDO (by first | (with_reducible assumption) | assumption)
       have q4 : x11_1 < (l0.length : Int) := zDO (by first | (with_reducible assumption) | assumption)
       obtain ⟨ad4, A4_0, c4_0, e4, hx4_0, hl4_0, hi4_0⟩ := zqf HR0.out x11_1 p4 q4
       cases e4
       replace hx4_0 := (HB.out.cell (World.block_lt_of_cell? w _ hx4_0)).trans hx4_0
       have HR4_0 := zaa.mk hi4_0
       have HC4_0 := zaa.mk hl4_0
       clear hi4_0 hl4_0
       replace p4 := eq_true p4
       replace q4 := eq_true q4
       obtain ⟨Ao11, co11, eo11⟩ := Kd.zbe HO_3.out
       subst eo11
       go_wp2_with (first | (go_at_call 170; (with_reducible refine (zcM.calls k1 _ _ x3_1 _ _ (zjG l0 x11_1) t5 t8 _ ?side1 ?side2 ?side3 ?side4 A7.out).mono ?_); (case side1 => exact cc (Kd.zaq HO_3.out).2.2); (case side2 => exact (Kd.zaq HO_3.out).2.1); (case side3 => exact cc (Kd.zaY HR4_0.out HB.out)); (case side4 => exact HC4_0.out); rintro e w12 ⟨v6, rfl, ho0, hb⟩; have n0_ := zaa.mk (Kd.zaW (vc HO_3.out) hb); have n1_ := zaa.mk (Kd.zbU (Kd.zbH (ok' := fun k_ => (w.heap.size ≤ k_)) ho0 (fun k_ hk_ => (Nat.le_trans (zad (lc HB.out)) hk_))) (zad (lc HB.out))); have n2_ := zaa.mk (zab (lc HB.out) hb); clear HO_3; clear HB; have HO_3 := n0_; have HO7 := n1_; have HB := n2_; clear n0_ n1_ n2_; (try clear hb); (try clear hb2); (try clear hk); (try clear hi); (try clear ho0)))
       go_ret
       exact ⟨_, by first | rfl | (simp [zaf, zag] <;> rfl) | (simp [*, zaf, zag] <;> rfl), (Kd.zcA _ _ _ _ _), lb⟩
     ·rw [if_neg c6] at H
      exact absurd H (by simp)
    ·rw [if_neg c5] at H
     exact absurd H (by simp)
   ·rw [if_neg c4] at H
    have c4b0 : decide (x11_1 < (l0.length : Int)) = false := zDF c4
    clear c4
    obtain rfl := Option.some.inj H
    go_wp2
    go_ret
    exact ⟨_, by first | rfl | (simp [zaf, zag] <;> rfl) | (simp [*, zaf, zag] <;> rfl), by (with_reducible repeat (first | apply Kd.zaZ | apply Kd.zbr | apply Kd.zbI)); exact HO_3.out, lb⟩
def zaL.f (k : Nat) (a0 : Bool) (l1 : List Int) (l2 : List Int) : Option (Bool × List Int × List Int × Int) := (zbf.f k l1 l2).bind fun bt2 => (if bt2.2 = 0 then ((zb9.f l1 bt2.1).bind fun bt6 => ((zb9.f l2 bt2.1).bind fun bt13 => (if bt6.2.2 = 0 then (if bt13.2.2 = 0 then (if (bt6.1.length : Int) > 16 then (some (false, ([] : List Int), ([] : List Int), 20)) else (if (bt13.1.length : Int) > 16 then (some (false, ([] : List Int), ([] : List Int), 20)) else (if a0 = true then (some (decide ((bt6.1.length : Int) > 0), bt6.1, bt13.1, 0)) else (some (false, bt6.1, bt13.1, 0))))) else (some (false, ([] : List Int), ([] : List Int), 20))) else (some (false, ([] : List Int), ([] : List Int), 20))))) else (some (false, ([] : List Int), ([] : List Int), 20)))
theorem zaL.mono : ∀ a0 a1 a2 k, LeO (zaL.f k a0 a1 a2) (zaL.f (k + 1) a0 a1 a2) := by
 intro a0 a1 a2 k
 unfold zaL.f
 repeat' with_reducible first | exact zbf.mono _ _ _ | exact LeO.refl _ | exact LeO.none _ | refine LeO.ite ?_ ?_ | refine LeO.bind ?_ (fun _ => ?_)
theorem zaL.calls (k : Nat) (a0 : Bool) (A1 : Option Addr) (c1 : Nat) (l1 : List Int) (A2 : Option Addr) (c2 : Nat) (l2 : List Int) (r1 : Bool) (r2 : List Int) (r3 : List Int) (r4 : Int) (w : World) (hr1 : Kd.C (Kd.int .u32) w A1 l1.length l1) (hc1 : l1.length ≤ c1) (hr2 : Kd.C (Kd.int .u32) w A2 l2.length l2) (hc2 : l2.length ≤ c2) (h : zaL.f k a0 l1 l2 = some (r1, r2, r3, r4)) :
  Calls Tryz.prog 139 #[.bool a0, .slice A1 l1.length c1, .slice A2 l2.length c2] w fun e w' => ∃ v1_ v2_ : Value, e = .returned (.tuple #[.agg #[.bool r1, v1_, v2_], .int .i64 r4]) ∧ Kd.R (Kd.int .u32) 109 w' w.heap.size (fun k_ => some k_ ≠ (v2_ : Value).ownBlock) v1_ r2 ∧ Kd.R (Kd.int .u32) 109 w' w.heap.size (fun k_ => some k_ ≠ (v1_ : Value).ownBlock) v2_ r3 ∧ Below w.heap.size w w' := by
 have hu41 := Tryz.underlying41
 have HR1 := zaa.mk hr1
 have HC1 := zaa.mk hc1
 clear hr1 hc1
 have HR2 := zaa.mk hr2
 have HC2 := zaa.mk hc2
 clear hr2 hc2
 have HB := zaa.mk (Below.refl w.heap.size w)
 have H : ((zbf.f k l1 l2).bind fun bt2 => (if bt2.2 = 0 then ((zb9.f l1 bt2.1).bind fun bt6 => ((zb9.f l2 bt2.1).bind fun bt13 => (if bt6.2.2 = 0 then (if bt13.2.2 = 0 then (if (bt6.1.length : Int) > 16 then (some (false, ([] : List Int), ([] : List Int), 20)) else (if (bt13.1.length : Int) > 16 then (some (false, ([] : List Int), ([] : List Int), 20)) else (if a0 = true then (some (decide ((bt6.1.length : Int) > 0), bt6.1, bt13.1, 0)) else (some (false, bt6.1, bt13.1, 0))))) else (some (false, ([] : List Int), ([] : List Int), 20))) else (some (false, ([] : List Int), ([] : List Int), 20))))) else (some (false, ([] : List Int), ([] : List Int), 20)))) = some (r1, r2, r3, r4) := h
 clear h
 replace H := zBE H
 obtain ⟨⟨t2, t3⟩, A40, H⟩ := H
 replace H : (if t3 = 0 then ((zb9.f l1 t2).bind fun bt6 => ((zb9.f l2 t2).bind fun bt13 => (if bt6.2.2 = 0 then (if bt13.2.2 = 0 then (if (bt6.1.length : Int) > 16 then (some (false, ([] : List Int), ([] : List Int), 20)) else (if (bt13.1.length : Int) > 16 then (some (false, ([] : List Int), ([] : List Int), 20)) else (if a0 = true then (some (decide ((bt6.1.length : Int) > 0), bt6.1, bt13.1, 0)) else (some (false, bt6.1, bt13.1, 0))))) else (some (false, ([] : List Int), ([] : List Int), 20))) else (some (false, ([] : List Int), ([] : List Int), 20))))) else (some (false, ([] : List Int), ([] : List Int), 20))) = some (r1, r2, r3, r4) := H
 have A4 := zaa.mk A40
 clear A40
 by_cases c5 : t3 = 0
 ·rw [if_pos c5] at H
  have c5b0 : (t3 == 0) = true := beq_iff_eq.mpr c5
  have c5b1 : (t3 != 0) = false := bne_eq_false_iff_eq.mpr c5
  clear c5
  replace H := zBE H
  obtain ⟨⟨t6, t7, t8⟩, A60, H⟩ := H
  replace H : ((zb9.f l2 t2).bind fun bt13 => (if t8 = 0 then (if bt13.2.2 = 0 then (if (t6.length : Int) > 16 then (some (false, ([] : List Int), ([] : List Int), 20)) else (if (bt13.1.length : Int) > 16 then (some (false, ([] : List Int), ([] : List Int), 20)) else (if a0 = true then (some (decide ((t6.length : Int) > 0), t6, bt13.1, 0)) else (some (false, t6, bt13.1, 0))))) else (some (false, ([] : List Int), ([] : List Int), 20))) else (some (false, ([] : List Int), ([] : List Int), 20)))) = some (r1, r2, r3, r4) := H
  have A6 := zaa.mk A60
  clear A60
  replace H := zBE H
  obtain ⟨⟨t13, t14, t15⟩, A70, H⟩ := H
  replace H : (if t8 = 0 then (if t15 = 0 then (if (t6.length : Int) > 16 then (some (false, ([] : List Int), ([] : List Int), 20)) else (if (t13.length : Int) > 16 then (some (false, ([] : List Int), ([] : List Int), 20)) else (if a0 = true then (some (decide ((t6.length : Int) > 0), t6, t13, 0)) else (some (false, t6, t13, 0))))) else (some (false, ([] : List Int), ([] : List Int), 20))) else (some (false, ([] : List Int), ([] : List Int), 20))) = some (r1, r2, r3, r4) := H
  have A7 := zaa.mk A70
  clear A70
  by_cases c8 : t8 = 0
  ·rw [if_pos c8] at H
   have c8b0 : (t8 == 0) = true := beq_iff_eq.mpr c8
   have c8b1 : (t8 != 0) = false := bne_eq_false_iff_eq.mpr c8
   clear c8
   by_cases c9 : t15 = 0
   ·rw [if_pos c9] at H
    have c9b0 : (t15 == 0) = true := beq_iff_eq.mpr c9
    have c9b1 : (t15 != 0) = false := bne_eq_false_iff_eq.mpr c9
    clear c9
    by_cases c10 : (t6.length : Int) > 16
    ·rw [if_pos c10] at H
     have c10b0 : decide (16 < (t6.length : Int)) = true := zDT c10
     have c10b1 : decide (16 < t6.length) = true := decide_eq_true (by omega)
     clear c10
     simp only [Option.some.injEq, Prod.mk.injEq] at H
     obtain ⟨rfl, rfl, rfl, rfl⟩ := H
     try (have hdl_ : decide ((t6.length : Int) > 0) = decide (0 < t6.length) := decide_eq_decide.2 (by omega); simp only [hdl_])
     go_enter Tryz.func139, Tryz.ntmps139
     go_wp2_with (first | ((with_reducible refine zaA (N := 6) rfl ?_); (try (refine zcD (by rfl) ?_; dsimp only)); refine zaN ?hg (N := 6) ?hd (cs := #[.bool false, .slice none 0 0, .slice none 0 0]) (t := 41) ?hr ?_; (case hd => rfl); (case hg => rfl); (case hr => first | (go_simp; done) | (go_simp; rfl)); intro gb1 hg w11 hbox hb; have n0_ := zaa.mk (zab (lc HB.out) hb); have n1_ := zaa.mk (hbox); have n2_ := zaa.mk ((by rw [hg]; exact (zad (lc HB.out)) : w.heap.size ≤ gb1)); have n3_ := zaa.mk ((by rw [hg]; exact (zad (lc HB.out)) : w.heap.size ≤ gb1)); clear HB; have HB := n0_; have BK1 := n1_; have GW1 := n2_; have GE1 := n3_; clear n0_ n1_ n2_ n3_; clear hb hbox hg) | (go_at_call 130; (with_reducible refine (zbf.calls k _ _ l1 _ _ l2 t2 t3 _ ?side1 ?side2 ?side3 ?side4 A4.out).mono ?_); (case side1 => exact cc (Kd.zaY HR1.out HB.out)); (case side2 => exact HC1.out); (case side3 => exact cc (Kd.zaY HR2.out HB.out)); (case side4 => exact HC2.out); rintro e w12 ⟨v4, rfl, ho0, hb⟩; have n0_ := zaa.mk (Kd.zaz ho0 (zad lb)); have n1_ := zaa.mk (zak (g := gb1) (o := .cells #[.bool false, .slice none 0 0, .slice none 0 0] 41 (0, 0)) (bc BK1.out) hb); have n2_ := zaa.mk (zab lb hb); clear BK1; clear HB; have HO5 := n0_; have BK1 := n1_; have HB := n2_; clear n0_ n1_ n2_; (try clear hb); (try clear hb2); (try clear hk); (try clear hi); (try clear ho0); obtain ⟨Ao13, co13, eo13⟩ := Kd.zaC HO5.out; subst eo13) | (go_at_call 168; (with_reducible refine (zb9.calls _ _ l1 _ _ t2 t6 t7 t8 _ ?side1 ?side2 ?side3 ?side4 A6.out).mono ?_); (case side1 => exact cc (Kd.zaY HR1.out HB.out)); (case side2 => exact HC1.out); (case side3 => exact cc (Kd.zax HO5.out).2.2); (case side4 => exact (Kd.zax HO5.out).2.1); rintro e w14 ⟨v9, v11, rfl, ho0, ho1, hb⟩; have n0_ := zaa.mk (Kd.za7 (Kd.zbx (Kd.zbx (Kd.zc5 (rc HO5.out) hb) (Kd.zbk ho0)) (Kd.zbk ho1)) (fun _ h_ => h_.1)); have n1_ := zaa.mk (Kd.zaz (Kd.zbq ho0 (Kd.zcH (rc HO5.out))) (zad lb)); have n2_ := zaa.mk (Kd.zaz (Kd.zbq ho1 (Kd.zcH (rc HO5.out))) (zad lb)); have n3_ := zaa.mk (zak (g := gb1) (o := .cells #[.bool false, .slice none 0 0, .slice none 0 0] 41 (0, 0)) (bc BK1.out) hb); have n4_ := zaa.mk (zab lb hb); clear HO5; clear BK1; clear HB; have HO5 := n0_; have HO10 := n1_; have HO12 := n2_; have BK1 := n3_; have HB := n4_; clear n0_ n1_ n2_ n3_ n4_; (try clear hb); (try clear hb2); (try clear hk); (try clear hi); (try clear ho0); (try clear ho1)) | (go_at_call 168; (with_reducible refine (zb9.calls _ _ l2 _ _ t2 t13 t14 t15 _ ?side1 ?side2 ?side3 ?side4 A7.out).mono ?_); (case side1 => exact cc (Kd.zaY HR2.out HB.out)); (case side2 => exact HC2.out); (case side3 => exact cc (Kd.zax HO5.out).2.2); (case side4 => exact (Kd.zax HO5.out).2.1); rintro e w15 ⟨v16, v18, rfl, ho0, ho1, hb⟩; have n0_ := zaa.mk (Kd.za7 (Kd.zbx (Kd.zbx (Kd.zc5 (rc HO5.out) hb) (Kd.zbk ho0)) (Kd.zbk ho1)) (fun _ h_ => h_.1)); have n1_ := zaa.mk (Kd.za7 (Kd.zbx (Kd.zbx (Kd.zc5 (rc HO10.out) hb) (Kd.zbk ho0)) (Kd.zbk ho1)) (fun _ h_ => h_.1)); have n2_ := zaa.mk (Kd.za7 (Kd.zbx (Kd.zbx (Kd.zc5 (rc HO12.out) hb) (Kd.zbk ho0)) (Kd.zbk ho1)) (fun _ h_ => h_.1)); have n3_ := zaa.mk (Kd.zaz (Kd.zbq (Kd.zbq (Kd.zbq ho0 (Kd.zcH (rc HO5.out))) (Kd.zcH (rc HO10.out))) (Kd.zcH (rc HO12.out))) (zad lb)); have n4_ := zaa.mk (Kd.zaz (Kd.zbq (Kd.zbq (Kd.zbq ho1 (Kd.zcH (rc HO5.out))) (Kd.zcH (rc HO10.out))) (Kd.zcH (rc HO12.out))) (zad lb)); have n5_ := zaa.mk (zak (g := gb1) (o := .cells #[.bool false, .slice none 0 0, .slice none 0 0] 41 (0, 0)) (bc BK1.out) hb); have n6_ := zaa.mk (zab lb hb); clear HO5; clear HO10; clear HO12; clear BK1; clear HB; have HO5 := n0_; have HO10 := n1_; have HO12 := n2_; have HO17 := n3_; have HO19 := n4_; have BK1 := n5_; have HB := n6_; clear n0_ n1_ n2_ n3_ n4_ n5_ n6_; (try clear hb); (try clear hb2); (try clear hk); (try clear hi); (try clear ho0); (try clear ho1); obtain ⟨Ao16, co16, eo16⟩ := Kd.zaC HO10.out; subst eo16; have hcz17_0 : w15.cell? ⟨gb1, 0, none⟩ = some (.bool false) := (zah BK1.out 0).trans rfl; have hcz17_1 : w15.cell? ⟨gb1, 1, none⟩ = some (.slice none 0 0) := (zah BK1.out 1).trans rfl; have hcz17_2 : w15.cell? ⟨gb1, 2, none⟩ = some (.slice none 0 0) := (zah BK1.out 2).trans rfl; have hfz17_0 := zae BK1.out 0; have hfz17_1 := zae BK1.out 1; have hfz17_2 := zae BK1.out 2))
     refine bodyPost_ret (zba rfl _ _ gb1 41 #[.bool false, .slice none 0 0, .slice none 0 0] (0, 0) _ rfl (by (with_reducible repeat (first | refine zap ?_ _ | refine zar ?_ | refine zai ?_ _)); refine zaB (cs := #[.bool false, .slice none 0 0, .slice none 0 0]) ?_ 2 _ rfl; (with_reducible repeat (first | refine zap ?_ _ | refine zar ?_ | refine zai ?_ _)); refine zaB (cs := #[.bool false, .slice none 0 0, .slice none 0 0]) ?_ 1 _ rfl; (with_reducible repeat (first | refine zap ?_ _ | refine zar ?_ | refine zai ?_ _)); refine zaB (cs := #[.bool false, .slice none 0 0, .slice none 0 0]) ?_ 0 _ rfl; (with_reducible repeat (first | refine zap ?_ _ | refine zar ?_ | refine zai ?_ _)); exact BK1.out) Tryz.underlying41 rfl (by kernel_rfl)) rfl ?_
     exact ⟨_, _, by first | rfl | (simp [zaf, zag] <;> rfl) | (simp [*, zaf, zag] <;> rfl), by first | exact Kd.zcl _ _ _ _ _ | exact Kd.zdi _ _ _ _ _ | exact Kd.zcA _ _ _ _ _ | exact Kd.zdf _ _ _ _ _ | exact Kd.zdh _ _ _ _ _, by first | exact Kd.zcl _ _ _ _ _ | exact Kd.zdi _ _ _ _ _ | exact Kd.zcA _ _ _ _ _ | exact Kd.zdf _ _ _ _ _ | exact Kd.zdh _ _ _ _ _, lb⟩
    ·rw [if_neg c10] at H
     have c10b0 : decide (16 < (t6.length : Int)) = false := zDF c10
     have c10b1 : decide (16 < t6.length) = false := decide_eq_false (by omega)
     clear c10
     by_cases c18 : (t13.length : Int) > 16
     ·rw [if_pos c18] at H
      have c18b0 : decide (16 < (t13.length : Int)) = true := zDT c18
      have c18b1 : decide (16 < t13.length) = true := decide_eq_true (by omega)
      clear c18
      simp only [Option.some.injEq, Prod.mk.injEq] at H
      obtain ⟨rfl, rfl, rfl, rfl⟩ := H
      try (have hdl_ : decide ((t6.length : Int) > 0) = decide (0 < t6.length) := decide_eq_decide.2 (by omega); simp only [hdl_])
      go_enter Tryz.func139, Tryz.ntmps139
      go_wp2_with (first | ((with_reducible refine zaA (N := 6) rfl ?_); (try (refine zcD (by rfl) ?_; dsimp only)); refine zaN ?hg (N := 6) ?hd (cs := #[.bool false, .slice none 0 0, .slice none 0 0]) (t := 41) ?hr ?_; (case hd => rfl); (case hg => rfl); (case hr => first | (go_simp; done) | (go_simp; rfl)); intro gb1 hg w19 hbox hb; have n0_ := zaa.mk (zab (lc HB.out) hb); have n1_ := zaa.mk (hbox); have n2_ := zaa.mk ((by rw [hg]; exact (zad (lc HB.out)) : w.heap.size ≤ gb1)); have n3_ := zaa.mk ((by rw [hg]; exact (zad (lc HB.out)) : w.heap.size ≤ gb1)); clear HB; have HB := n0_; have BK1 := n1_; have GW1 := n2_; have GE1 := n3_; clear n0_ n1_ n2_ n3_; clear hb hbox hg) | (go_at_call 130; (with_reducible refine (zbf.calls k _ _ l1 _ _ l2 t2 t3 _ ?side1 ?side2 ?side3 ?side4 A4.out).mono ?_); (case side1 => exact cc (Kd.zaY HR1.out HB.out)); (case side2 => exact HC1.out); (case side3 => exact cc (Kd.zaY HR2.out HB.out)); (case side4 => exact HC2.out); rintro e w20 ⟨v4, rfl, ho0, hb⟩; have n0_ := zaa.mk (Kd.zaz ho0 (zad lb)); have n1_ := zaa.mk (zak (g := gb1) (o := .cells #[.bool false, .slice none 0 0, .slice none 0 0] 41 (0, 0)) (bc BK1.out) hb); have n2_ := zaa.mk (zab lb hb); clear BK1; clear HB; have HO5 := n0_; have BK1 := n1_; have HB := n2_; clear n0_ n1_ n2_; (try clear hb); (try clear hb2); (try clear hk); (try clear hi); (try clear ho0); obtain ⟨Ao21, co21, eo21⟩ := Kd.zaC HO5.out; subst eo21) | (go_at_call 168; (with_reducible refine (zb9.calls _ _ l1 _ _ t2 t6 t7 t8 _ ?side1 ?side2 ?side3 ?side4 A6.out).mono ?_); (case side1 => exact cc (Kd.zaY HR1.out HB.out)); (case side2 => exact HC1.out); (case side3 => exact cc (Kd.zax HO5.out).2.2); (case side4 => exact (Kd.zax HO5.out).2.1); rintro e w22 ⟨v9, v11, rfl, ho0, ho1, hb⟩; have n0_ := zaa.mk (Kd.za7 (Kd.zbx (Kd.zbx (Kd.zc5 (rc HO5.out) hb) (Kd.zbk ho0)) (Kd.zbk ho1)) (fun _ h_ => h_.1)); have n1_ := zaa.mk (Kd.zaz (Kd.zbq ho0 (Kd.zcH (rc HO5.out))) (zad lb)); have n2_ := zaa.mk (Kd.zaz (Kd.zbq ho1 (Kd.zcH (rc HO5.out))) (zad lb)); have n3_ := zaa.mk (zak (g := gb1) (o := .cells #[.bool false, .slice none 0 0, .slice none 0 0] 41 (0, 0)) (bc BK1.out) hb); have n4_ := zaa.mk (zab lb hb); clear HO5; clear BK1; clear HB; have HO5 := n0_; have HO10 := n1_; have HO12 := n2_; have BK1 := n3_; have HB := n4_; clear n0_ n1_ n2_ n3_ n4_; (try clear hb); (try clear hb2); (try clear hk); (try clear hi); (try clear ho0); (try clear ho1)) | (go_at_call 168; (with_reducible refine (zb9.calls _ _ l2 _ _ t2 t13 t14 t15 _ ?side1 ?side2 ?side3 ?side4 A7.out).mono ?_); (case side1 => exact cc (Kd.zaY HR2.out HB.out)); (case side2 => exact HC2.out); (case side3 => exact cc (Kd.zax HO5.out).2.2); (case side4 => exact (Kd.zax HO5.out).2.1); rintro e w23 ⟨v16, v18, rfl, ho0, ho1, hb⟩; have n0_ := zaa.mk (Kd.za7 (Kd.zbx (Kd.zbx (Kd.zc5 (rc HO5.out) hb) (Kd.zbk ho0)) (Kd.zbk ho1)) (fun _ h_ => h_.1)); have n1_ := zaa.mk (Kd.za7 (Kd.zbx (Kd.zbx (Kd.zc5 (rc HO10.out) hb) (Kd.zbk ho0)) (Kd.zbk ho1)) (fun _ h_ => h_.1)); have n2_ := zaa.mk (Kd.za7 (Kd.zbx (Kd.zbx (Kd.zc5 (rc HO12.out) hb) (Kd.zbk ho0)) (Kd.zbk ho1)) (fun _ h_ => h_.1)); have n3_ := zaa.mk (Kd.zaz (Kd.zbq (Kd.zbq (Kd.zbq ho0 (Kd.zcH (rc HO5.out))) (Kd.zcH (rc HO10.out))) (Kd.zcH (rc HO12.out))) (zad lb)); have n4_ := zaa.mk (Kd.zaz (Kd.zbq (Kd.zbq (Kd.zbq ho1 (Kd.zcH (rc HO5.out))) (Kd.zcH (rc HO10.out))) (Kd.zcH (rc HO12.out))) (zad lb)); have n5_ := zaa.mk (zak (g := gb1) (o := .cells #[.bool false, .slice none 0 0, .slice none 0 0] 41 (0, 0)) (bc BK1.out) hb); have n6_ := zaa.mk (zab lb hb); clear HO5; clear HO10; clear HO12; clear BK1; clear HB; have HO5 := n0_; have HO10 := n1_; have HO12 := n2_; have HO17 := n3_; have HO19 := n4_; have BK1 := n5_; have HB := n6_; clear n0_ n1_ n2_ n3_ n4_ n5_ n6_; (try clear hb); (try clear hb2); (try clear hk); (try clear hi); (try clear ho0); (try clear ho1); obtain ⟨Ao24, co24, eo24⟩ := Kd.zaC HO10.out; subst eo24; obtain ⟨Ao25, co25, eo25⟩ := Kd.zaC HO17.out; subst eo25; have hcz26_0 : w23.cell? ⟨gb1, 0, none⟩ = some (.bool false) := (zah BK1.out 0).trans rfl; have hcz26_1 : w23.cell? ⟨gb1, 1, none⟩ = some (.slice none 0 0) := (zah BK1.out 1).trans rfl; have hcz26_2 : w23.cell? ⟨gb1, 2, none⟩ = some (.slice none 0 0) := (zah BK1.out 2).trans rfl; have hfz26_0 := zae BK1.out 0; have hfz26_1 := zae BK1.out 1; have hfz26_2 := zae BK1.out 2))
      refine bodyPost_ret (zba rfl _ _ gb1 41 #[.bool false, .slice none 0 0, .slice none 0 0] (0, 0) _ rfl (by (with_reducible repeat (first | refine zap ?_ _ | refine zar ?_ | refine zai ?_ _)); refine zaB (cs := #[.bool false, .slice none 0 0, .slice none 0 0]) ?_ 2 _ rfl; (with_reducible repeat (first | refine zap ?_ _ | refine zar ?_ | refine zai ?_ _)); refine zaB (cs := #[.bool false, .slice none 0 0, .slice none 0 0]) ?_ 1 _ rfl; (with_reducible repeat (first | refine zap ?_ _ | refine zar ?_ | refine zai ?_ _)); refine zaB (cs := #[.bool false, .slice none 0 0, .slice none 0 0]) ?_ 0 _ rfl; (with_reducible repeat (first | refine zap ?_ _ | refine zar ?_ | refine zai ?_ _)); exact BK1.out) Tryz.underlying41 rfl (by kernel_rfl)) rfl ?_
      exact ⟨_, _, by first | rfl | (simp [zaf, zag] <;> rfl) | (simp [*, zaf, zag] <;> rfl), by first | exact Kd.zcl _ _ _ _ _ | exact Kd.zdi _ _ _ _ _ | exact Kd.zcA _ _ _ _ _ | exact Kd.zdf _ _ _ _ _ | exact Kd.zdh _ _ _ _ _, by first | exact Kd.zcl _ _ _ _ _ | exact Kd.zdi _ _ _ _ _ | exact Kd.zcA _ _ _ _ _ | exact Kd.zdf _ _ _ _ _ | exact Kd.zdh _ _ _ _ _, lb⟩
     ·rw [if_neg c18] at H
      have c18b0 : decide (16 < (t13.length : Int)) = false := zDF c18
      have c18b1 : decide (16 < t13.length) = false := decide_eq_false (by omega)
      clear c18
      by_cases c27 : a0 = true
      ·subst c27
       have H1 : (some (decide ((t6.length : Int) > 0), t6, t13, 0)) = some (r1, r2, r3, r4) := by rw [if_pos rfl] at H; exact H
       clear H
       have H := H1
       clear H1
       simp only [Option.some.injEq, Prod.mk.injEq] at H
       obtain ⟨rfl, rfl, rfl, rfl⟩ := H
       try (have hdl_ : decide ((t6.length : Int) > 0) = decide (0 < t6.length) := decide_eq_decide.2 (by omega); simp only [hdl_])
       go_enter Tryz.func139, Tryz.ntmps139
       go_wp2_with (first | ((with_reducible refine zaA (N := 6) rfl ?_); (try (refine zcD (by rfl) ?_; dsimp only)); refine zaN ?hg (N := 6) ?hd (cs := #[.bool false, .slice none 0 0, .slice none 0 0]) (t := 41) ?hr ?_; (case hd => rfl); (case hg => rfl); (case hr => first | (go_simp; done) | (go_simp; rfl)); intro gb1 hg w28 hbox hb; have n0_ := zaa.mk (zab (lc HB.out) hb); have n1_ := zaa.mk (hbox); have n2_ := zaa.mk ((by rw [hg]; exact (zad (lc HB.out)) : w.heap.size ≤ gb1)); have n3_ := zaa.mk ((by rw [hg]; exact (zad (lc HB.out)) : w.heap.size ≤ gb1)); clear HB; have HB := n0_; have BK1 := n1_; have GW1 := n2_; have GE1 := n3_; clear n0_ n1_ n2_ n3_; clear hb hbox hg) | (go_at_call 130; (with_reducible refine (zbf.calls k _ _ l1 _ _ l2 t2 t3 _ ?side1 ?side2 ?side3 ?side4 A4.out).mono ?_); (case side1 => exact cc (Kd.zaY HR1.out HB.out)); (case side2 => exact HC1.out); (case side3 => exact cc (Kd.zaY HR2.out HB.out)); (case side4 => exact HC2.out); rintro e w29 ⟨v4, rfl, ho0, hb⟩; have n0_ := zaa.mk (Kd.zaz ho0 (zad lb)); have n1_ := zaa.mk (zak (g := gb1) (o := .cells #[.bool false, .slice none 0 0, .slice none 0 0] 41 (0, 0)) (bc BK1.out) hb); have n2_ := zaa.mk (zab lb hb); clear BK1; clear HB; have HO5 := n0_; have BK1 := n1_; have HB := n2_; clear n0_ n1_ n2_; (try clear hb); (try clear hb2); (try clear hk); (try clear hi); (try clear ho0); obtain ⟨Ao30, co30, eo30⟩ := Kd.zaC HO5.out; subst eo30) | (go_at_call 168; (with_reducible refine (zb9.calls _ _ l1 _ _ t2 t6 t7 t8 _ ?side1 ?side2 ?side3 ?side4 A6.out).mono ?_); (case side1 => exact cc (Kd.zaY HR1.out HB.out)); (case side2 => exact HC1.out); (case side3 => exact cc (Kd.zax HO5.out).2.2); (case side4 => exact (Kd.zax HO5.out).2.1); rintro e w31 ⟨v9, v11, rfl, ho0, ho1, hb⟩; have n0_ := zaa.mk (Kd.za7 (Kd.zbx (Kd.zbx (Kd.zc5 (rc HO5.out) hb) (Kd.zbk ho0)) (Kd.zbk ho1)) (fun _ h_ => h_.1)); have n1_ := zaa.mk (Kd.zaz (Kd.zbq ho0 (Kd.zcH (rc HO5.out))) (zad lb)); have n2_ := zaa.mk (Kd.zaz (Kd.zbq ho1 (Kd.zcH (rc HO5.out))) (zad lb)); have n3_ := zaa.mk (zak (g := gb1) (o := .cells #[.bool false, .slice none 0 0, .slice none 0 0] 41 (0, 0)) (bc BK1.out) hb); have n4_ := zaa.mk (zab lb hb); clear HO5; clear BK1; clear HB; have HO5 := n0_; have HO10 := n1_; have HO12 := n2_; have BK1 := n3_; have HB := n4_; clear n0_ n1_ n2_ n3_ n4_; (try clear hb); (try clear hb2); (try clear hk); (try clear hi); (try clear ho0); (try clear ho1)) | (go_at_call 168; (with_reducible refine (zb9.calls _ _ l2 _ _ t2 t13 t14 t15 _ ?side1 ?side2 ?side3 ?side4 A7.out).mono ?_); (case side1 => exact cc (Kd.zaY HR2.out HB.out)); (case side2 => exact HC2.out); (case side3 => exact cc (Kd.zax HO5.out).2.2); (case side4 => exact (Kd.zax HO5.out).2.1); rintro e w32 ⟨v16, v18, rfl, ho0, ho1, hb⟩; have n0_ := zaa.mk (Kd.za7 (Kd.zbx (Kd.zbx (Kd.zc5 (rc HO5.out) hb) (Kd.zbk ho0)) (Kd.zbk ho1)) (fun _ h_ => h_.1)); have n1_ := zaa.mk (Kd.za7 (Kd.zbx (Kd.zbx (Kd.zc5 (rc HO10.out) hb) (Kd.zbk ho0)) (Kd.zbk ho1)) (fun _ h_ => h_.1)); have n2_ := zaa.mk (Kd.za7 (Kd.zbx (Kd.zbx (Kd.zc5 (rc HO12.out) hb) (Kd.zbk ho0)) (Kd.zbk ho1)) (fun _ h_ => h_.1)); have n3_ := zaa.mk (Kd.zaz (Kd.zbq (Kd.zbq (Kd.zbq ho0 (Kd.zcH (rc HO5.out))) (Kd.zcH (rc HO10.out))) (Kd.zcH (rc HO12.out))) (zad lb)); have n4_ := zaa.mk (Kd.zaz (Kd.zbq (Kd.zbq (Kd.zbq ho1 (Kd.zcH (rc HO5.out))) (Kd.zcH (rc HO10.out))) (Kd.zcH (rc HO12.out))) (zad lb)); have n5_ := zaa.mk (zak (g := gb1) (o := .cells #[.bool false, .slice none 0 0, .slice none 0 0] 41 (0, 0)) (bc BK1.out) hb); have n6_ := zaa.mk (zab lb hb); clear HO5; clear HO10; clear HO12; clear BK1; clear HB; have HO5 := n0_; have HO10 := n1_; have HO12 := n2_; have HO17 := n3_; have HO19 := n4_; have BK1 := n5_; have HB := n6_; clear n0_ n1_ n2_ n3_ n4_ n5_ n6_; (try clear hb); (try clear hb2); (try clear hk); (try clear hi); (try clear ho0); (try clear ho1); obtain ⟨Ao33, co33, eo33⟩ := Kd.zaC HO10.out; subst eo33; obtain ⟨Ao34, co34, eo34⟩ := Kd.zaC HO17.out; subst eo34; have hcz35_0 : w32.cell? ⟨gb1, 0, none⟩ = some (.bool false) := (zah BK1.out 0).trans rfl; have hcz35_1 : w32.cell? ⟨gb1, 1, none⟩ = some (.slice none 0 0) := (zah BK1.out 1).trans rfl; have hcz35_2 : w32.cell? ⟨gb1, 2, none⟩ = some (.slice none 0 0) := (zah BK1.out 2).trans rfl; have hfz35_0 := zae BK1.out 0; have hfz35_1 := zae BK1.out 1; have hfz35_2 := zae BK1.out 2))
       refine bodyPost_ret (zba rfl _ _ gb1 41 #[.bool (decide (0 < t6.length)), .slice Ao33 t6.length co33, .slice Ao34 t13.length co34] (0, 0) _ rfl (by (with_reducible repeat (first | refine zap ?_ _ | refine zar ?_ | refine zai ?_ _)); refine zaB (cs := #[.bool (decide (0 < t6.length)), .slice Ao33 t6.length co33, .slice none 0 0]) ?_ 2 _ rfl; (with_reducible repeat (first | refine zap ?_ _ | refine zar ?_ | refine zai ?_ _)); refine zaB (cs := #[.bool (decide (0 < t6.length)), .slice none 0 0, .slice none 0 0]) ?_ 1 _ rfl; (with_reducible repeat (first | refine zap ?_ _ | refine zar ?_ | refine zai ?_ _)); refine zaB (cs := #[.bool false, .slice none 0 0, .slice none 0 0]) ?_ 0 _ rfl; (with_reducible repeat (first | refine zap ?_ _ | refine zar ?_ | refine zai ?_ _)); exact BK1.out) Tryz.underlying41 rfl (by kernel_rfl)) rfl ?_
       exact ⟨_, _, by first | rfl | (simp [zaf, zag] <;> rfl) | (simp [*, zaf, zag] <;> rfl), by (with_reducible repeat (first | apply Kd.zaQ | apply Kd.zaR | apply Kd.zbb)); exact Kd.za7 (Kd.zck (p := ⟨gb1, 2, none⟩) (Kd.zck (p := ⟨gb1, 1, none⟩) (Kd.zck (p := ⟨gb1, 0, none⟩) (Kd.zfs HO10.out BK1.out (by decide)) (fun _ hk => hk.2) (.bool (decide (0 < t6.length)))) (fun _ hk => hk.2) (.slice Ao33 t6.length co33)) (fun _ hk => hk.2) (.slice Ao34 t13.length co34)) (fun _ hk => hk.1.1.2), by (with_reducible repeat (first | apply Kd.zaQ | apply Kd.zaR | apply Kd.zbb)); exact Kd.za7 (Kd.zck (p := ⟨gb1, 2, none⟩) (Kd.zck (p := ⟨gb1, 1, none⟩) (Kd.zck (p := ⟨gb1, 0, none⟩) (Kd.zfs HO17.out BK1.out (by decide)) (fun _ hk => hk.2) (.bool (decide (0 < t6.length)))) (fun _ hk => hk.2) (.slice Ao33 t6.length co33)) (fun _ hk => hk.2) (.slice Ao34 t13.length co34)) (fun _ hk => hk.1.1.2), lb⟩
      ·replace c27 := Bool.eq_false_iff.mpr c27
       subst c27
       have H1 : (some (false, t6, t13, 0)) = some (r1, r2, r3, r4) := by rw [if_neg (show ¬ (false = true) by decide)] at H; exact H
       clear H
       have H := H1
       clear H1
       simp only [Option.some.injEq, Prod.mk.injEq] at H
       obtain ⟨rfl, rfl, rfl, rfl⟩ := H
       try (have hdl_ : decide ((t6.length : Int) > 0) = decide (0 < t6.length) := decide_eq_decide.2 (by omega); simp only [hdl_])
       go_enter Tryz.func139, Tryz.ntmps139
       go_wp2_with (first | ((with_reducible refine zaA (N := 6) rfl ?_); (try (refine zcD (by rfl) ?_; dsimp only)); refine zaN ?hg (N := 6) ?hd (cs := #[.bool false, .slice none 0 0, .slice none 0 0]) (t := 41) ?hr ?_; (case hd => rfl); (case hg => rfl); (case hr => first | (go_simp; done) | (go_simp; rfl)); intro gb1 hg w36 hbox hb; have n0_ := zaa.mk (zab (lc HB.out) hb); have n1_ := zaa.mk (hbox); have n2_ := zaa.mk ((by rw [hg]; exact (zad (lc HB.out)) : w.heap.size ≤ gb1)); have n3_ := zaa.mk ((by rw [hg]; exact (zad (lc HB.out)) : w.heap.size ≤ gb1)); clear HB; have HB := n0_; have BK1 := n1_; have GW1 := n2_; have GE1 := n3_; clear n0_ n1_ n2_ n3_; clear hb hbox hg) | (go_at_call 130; (with_reducible refine (zbf.calls k _ _ l1 _ _ l2 t2 t3 _ ?side1 ?side2 ?side3 ?side4 A4.out).mono ?_); (case side1 => exact cc (Kd.zaY HR1.out HB.out)); (case side2 => exact HC1.out); (case side3 => exact cc (Kd.zaY HR2.out HB.out)); (case side4 => exact HC2.out); rintro e w37 ⟨v4, rfl, ho0, hb⟩; have n0_ := zaa.mk (Kd.zaz ho0 (zad lb)); have n1_ := zaa.mk (zak (g := gb1) (o := .cells #[.bool false, .slice none 0 0, .slice none 0 0] 41 (0, 0)) (bc BK1.out) hb); have n2_ := zaa.mk (zab lb hb); clear BK1; clear HB; have HO5 := n0_; have BK1 := n1_; have HB := n2_; clear n0_ n1_ n2_; (try clear hb); (try clear hb2); (try clear hk); (try clear hi); (try clear ho0); obtain ⟨Ao38, co38, eo38⟩ := Kd.zaC HO5.out; subst eo38) | (go_at_call 168; (with_reducible refine (zb9.calls _ _ l1 _ _ t2 t6 t7 t8 _ ?side1 ?side2 ?side3 ?side4 A6.out).mono ?_); (case side1 => exact cc (Kd.zaY HR1.out HB.out)); (case side2 => exact HC1.out); (case side3 => exact cc (Kd.zax HO5.out).2.2); (case side4 => exact (Kd.zax HO5.out).2.1); rintro e w39 ⟨v9, v11, rfl, ho0, ho1, hb⟩; have n0_ := zaa.mk (Kd.za7 (Kd.zbx (Kd.zbx (Kd.zc5 (rc HO5.out) hb) (Kd.zbk ho0)) (Kd.zbk ho1)) (fun _ h_ => h_.1)); have n1_ := zaa.mk (Kd.zaz (Kd.zbq ho0 (Kd.zcH (rc HO5.out))) (zad lb)); have n2_ := zaa.mk (Kd.zaz (Kd.zbq ho1 (Kd.zcH (rc HO5.out))) (zad lb)); have n3_ := zaa.mk (zak (g := gb1) (o := .cells #[.bool false, .slice none 0 0, .slice none 0 0] 41 (0, 0)) (bc BK1.out) hb); have n4_ := zaa.mk (zab lb hb); clear HO5; clear BK1; clear HB; have HO5 := n0_; have HO10 := n1_; have HO12 := n2_; have BK1 := n3_; have HB := n4_; clear n0_ n1_ n2_ n3_ n4_; (try clear hb); (try clear hb2); (try clear hk); (try clear hi); (try clear ho0); (try clear ho1)) | (go_at_call 168; (with_reducible refine (zb9.calls _ _ l2 _ _ t2 t13 t14 t15 _ ?side1 ?side2 ?side3 ?side4 A7.out).mono ?_); (case side1 => exact cc (Kd.zaY HR2.out HB.out)); (case side2 => exact HC2.out); (case side3 => exact cc (Kd.zax HO5.out).2.2); (case side4 => exact (Kd.zax HO5.out).2.1); rintro e w40 ⟨v16, v18, rfl, ho0, ho1, hb⟩; have n0_ := zaa.mk (Kd.za7 (Kd.zbx (Kd.zbx (Kd.zc5 (rc HO5.out) hb) (Kd.zbk ho0)) (Kd.zbk ho1)) (fun _ h_ => h_.1)); have n1_ := zaa.mk (Kd.za7 (Kd.zbx (Kd.zbx (Kd.zc5 (rc HO10.out) hb) (Kd.zbk ho0)) (Kd.zbk ho1)) (fun _ h_ => h_.1)); have n2_ := zaa.mk (Kd.za7 (Kd.zbx (Kd.zbx (Kd.zc5 (rc HO12.out) hb) (Kd.zbk ho0)) (Kd.zbk ho1)) (fun _ h_ => h_.1)); have n3_ := zaa.mk (Kd.zaz (Kd.zbq (Kd.zbq (Kd.zbq ho0 (Kd.zcH (rc HO5.out))) (Kd.zcH (rc HO10.out))) (Kd.zcH (rc HO12.out))) (zad lb)); have n4_ := zaa.mk (Kd.zaz (Kd.zbq (Kd.zbq (Kd.zbq ho1 (Kd.zcH (rc HO5.out))) (Kd.zcH (rc HO10.out))) (Kd.zcH (rc HO12.out))) (zad lb)); have n5_ := zaa.mk (zak (g := gb1) (o := .cells #[.bool false, .slice none 0 0, .slice none 0 0] 41 (0, 0)) (bc BK1.out) hb); have n6_ := zaa.mk (zab lb hb); clear HO5; clear HO10; clear HO12; clear BK1; clear HB; have HO5 := n0_; have HO10 := n1_; have HO12 := n2_; have HO17 := n3_; have HO19 := n4_; have BK1 := n5_; have HB := n6_; clear n0_ n1_ n2_ n3_ n4_ n5_ n6_; (try clear hb); (try clear hb2); (try clear hk); (try clear hi); (try clear ho0); (try clear ho1); obtain ⟨Ao41, co41, eo41⟩ := Kd.zaC HO10.out; subst eo41; obtain ⟨Ao42, co42, eo42⟩ := Kd.zaC HO17.out; subst eo42; have hcz43_0 : w40.cell? ⟨gb1, 0, none⟩ = some (.bool false) := (zah BK1.out 0).trans rfl; have hcz43_1 : w40.cell? ⟨gb1, 1, none⟩ = some (.slice none 0 0) := (zah BK1.out 1).trans rfl; have hcz43_2 : w40.cell? ⟨gb1, 2, none⟩ = some (.slice none 0 0) := (zah BK1.out 2).trans rfl; have hfz43_0 := zae BK1.out 0; have hfz43_1 := zae BK1.out 1; have hfz43_2 := zae BK1.out 2))
       refine bodyPost_ret (zba rfl _ _ gb1 41 #[.bool false, .slice Ao41 t6.length co41, .slice Ao42 t13.length co42] (0, 0) _ rfl (by (with_reducible repeat (first | refine zap ?_ _ | refine zar ?_ | refine zai ?_ _)); refine zaB (cs := #[.bool false, .slice Ao41 t6.length co41, .slice none 0 0]) ?_ 2 _ rfl; (with_reducible repeat (first | refine zap ?_ _ | refine zar ?_ | refine zai ?_ _)); refine zaB (cs := #[.bool false, .slice none 0 0, .slice none 0 0]) ?_ 1 _ rfl; (with_reducible repeat (first | refine zap ?_ _ | refine zar ?_ | refine zai ?_ _)); refine zaB (cs := #[.bool false, .slice none 0 0, .slice none 0 0]) ?_ 0 _ rfl; (with_reducible repeat (first | refine zap ?_ _ | refine zar ?_ | refine zai ?_ _)); exact BK1.out) Tryz.underlying41 rfl (by kernel_rfl)) rfl ?_
       exact ⟨_, _, by first | rfl | (simp [zaf, zag] <;> rfl) | (simp [*, zaf, zag] <;> rfl), by (with_reducible repeat (first | apply Kd.zaQ | apply Kd.zaR | apply Kd.zbb)); exact Kd.za7 (Kd.zck (p := ⟨gb1, 2, none⟩) (Kd.zck (p := ⟨gb1, 1, none⟩) (Kd.zck (p := ⟨gb1, 0, none⟩) (Kd.zfs HO10.out BK1.out (by decide)) (fun _ hk => hk.2) (.bool false)) (fun _ hk => hk.2) (.slice Ao41 t6.length co41)) (fun _ hk => hk.2) (.slice Ao42 t13.length co42)) (fun _ hk => hk.1.1.2), by (with_reducible repeat (first | apply Kd.zaQ | apply Kd.zaR | apply Kd.zbb)); exact Kd.za7 (Kd.zck (p := ⟨gb1, 2, none⟩) (Kd.zck (p := ⟨gb1, 1, none⟩) (Kd.zck (p := ⟨gb1, 0, none⟩) (Kd.zfs HO17.out BK1.out (by decide)) (fun _ hk => hk.2) (.bool false)) (fun _ hk => hk.2) (.slice Ao41 t6.length co41)) (fun _ hk => hk.2) (.slice Ao42 t13.length co42)) (fun _ hk => hk.1.1.2), lb⟩
   ·rw [if_neg c9] at H
    have c9b0 : (t15 == 0) = false := beq_eq_false_iff_ne.mpr c9
    have c9b1 : (t15 != 0) = true := bne_iff_ne.mpr c9
    simp only [Option.some.injEq, Prod.mk.injEq] at H
    obtain ⟨rfl, rfl, rfl, rfl⟩ := H
    try (have hdl_ : decide ((t6.length : Int) > 0) = decide (0 < t6.length) := decide_eq_decide.2 (by omega); simp only [hdl_])
    go_enter Tryz.func139, Tryz.ntmps139
    go_wp2_with (first | ((with_reducible refine zaA (N := 6) rfl ?_); (try (refine zcD (by rfl) ?_; dsimp only)); refine zaN ?hg (N := 6) ?hd (cs := #[.bool false, .slice none 0 0, .slice none 0 0]) (t := 41) ?hr ?_; (case hd => rfl); (case hg => rfl); (case hr => first | (go_simp; done) | (go_simp; rfl)); intro gb1 hg w44 hbox hb; have n0_ := zaa.mk (zab (lc HB.out) hb); have n1_ := zaa.mk (hbox); have n2_ := zaa.mk ((by rw [hg]; exact (zad (lc HB.out)) : w.heap.size ≤ gb1)); have n3_ := zaa.mk ((by rw [hg]; exact (zad (lc HB.out)) : w.heap.size ≤ gb1)); clear HB; have HB := n0_; have BK1 := n1_; have GW1 := n2_; have GE1 := n3_; clear n0_ n1_ n2_ n3_; clear hb hbox hg) | (go_at_call 130; (with_reducible refine (zbf.calls k _ _ l1 _ _ l2 t2 t3 _ ?side1 ?side2 ?side3 ?side4 A4.out).mono ?_); (case side1 => exact cc (Kd.zaY HR1.out HB.out)); (case side2 => exact HC1.out); (case side3 => exact cc (Kd.zaY HR2.out HB.out)); (case side4 => exact HC2.out); rintro e w45 ⟨v4, rfl, ho0, hb⟩; have n0_ := zaa.mk (Kd.zaz ho0 (zad lb)); have n1_ := zaa.mk (zak (g := gb1) (o := .cells #[.bool false, .slice none 0 0, .slice none 0 0] 41 (0, 0)) (bc BK1.out) hb); have n2_ := zaa.mk (zab lb hb); clear BK1; clear HB; have HO5 := n0_; have BK1 := n1_; have HB := n2_; clear n0_ n1_ n2_; (try clear hb); (try clear hb2); (try clear hk); (try clear hi); (try clear ho0); obtain ⟨Ao46, co46, eo46⟩ := Kd.zaC HO5.out; subst eo46) | (go_at_call 168; (with_reducible refine (zb9.calls _ _ l1 _ _ t2 t6 t7 t8 _ ?side1 ?side2 ?side3 ?side4 A6.out).mono ?_); (case side1 => exact cc (Kd.zaY HR1.out HB.out)); (case side2 => exact HC1.out); (case side3 => exact cc (Kd.zax HO5.out).2.2); (case side4 => exact (Kd.zax HO5.out).2.1); rintro e w47 ⟨v9, v11, rfl, ho0, ho1, hb⟩; have n0_ := zaa.mk (Kd.za7 (Kd.zbx (Kd.zbx (Kd.zc5 (rc HO5.out) hb) (Kd.zbk ho0)) (Kd.zbk ho1)) (fun _ h_ => h_.1)); have n1_ := zaa.mk (Kd.zaz (Kd.zbq ho0 (Kd.zcH (rc HO5.out))) (zad lb)); have n2_ := zaa.mk (Kd.zaz (Kd.zbq ho1 (Kd.zcH (rc HO5.out))) (zad lb)); have n3_ := zaa.mk (zak (g := gb1) (o := .cells #[.bool false, .slice none 0 0, .slice none 0 0] 41 (0, 0)) (bc BK1.out) hb); have n4_ := zaa.mk (zab lb hb); clear HO5; clear BK1; clear HB; have HO5 := n0_; have HO10 := n1_; have HO12 := n2_; have BK1 := n3_; have HB := n4_; clear n0_ n1_ n2_ n3_ n4_; (try clear hb); (try clear hb2); (try clear hk); (try clear hi); (try clear ho0); (try clear ho1)) | (go_at_call 168; (with_reducible refine (zb9.calls _ _ l2 _ _ t2 t13 t14 t15 _ ?side1 ?side2 ?side3 ?side4 A7.out).mono ?_); (case side1 => exact cc (Kd.zaY HR2.out HB.out)); (case side2 => exact HC2.out); (case side3 => exact cc (Kd.zax HO5.out).2.2); (case side4 => exact (Kd.zax HO5.out).2.1); rintro e w48 ⟨v16, v18, rfl, ho0, ho1, hb⟩; have n0_ := zaa.mk (Kd.za7 (Kd.zbx (Kd.zbx (Kd.zc5 (rc HO5.out) hb) (Kd.zbk ho0)) (Kd.zbk ho1)) (fun _ h_ => h_.1)); have n1_ := zaa.mk (Kd.za7 (Kd.zbx (Kd.zbx (Kd.zc5 (rc HO10.out) hb) (Kd.zbk ho0)) (Kd.zbk ho1)) (fun _ h_ => h_.1)); have n2_ := zaa.mk (Kd.za7 (Kd.zbx (Kd.zbx (Kd.zc5 (rc HO12.out) hb) (Kd.zbk ho0)) (Kd.zbk ho1)) (fun _ h_ => h_.1)); have n3_ := zaa.mk (Kd.zaz (Kd.zbq (Kd.zbq (Kd.zbq ho0 (Kd.zcH (rc HO5.out))) (Kd.zcH (rc HO10.out))) (Kd.zcH (rc HO12.out))) (zad lb)); have n4_ := zaa.mk (Kd.zaz (Kd.zbq (Kd.zbq (Kd.zbq ho1 (Kd.zcH (rc HO5.out))) (Kd.zcH (rc HO10.out))) (Kd.zcH (rc HO12.out))) (zad lb)); have n5_ := zaa.mk (zak (g := gb1) (o := .cells #[.bool false, .slice none 0 0, .slice none 0 0] 41 (0, 0)) (bc BK1.out) hb); have n6_ := zaa.mk (zab lb hb); clear HO5; clear HO10; clear HO12; clear BK1; clear HB; have HO5 := n0_; have HO10 := n1_; have HO12 := n2_; have HO17 := n3_; have HO19 := n4_; have BK1 := n5_; have HB := n6_; clear n0_ n1_ n2_ n3_ n4_ n5_ n6_; (try clear hb); (try clear hb2); (try clear hk); (try clear hi); (try clear ho0); (try clear ho1); have hcz49_0 : w48.cell? ⟨gb1, 0, none⟩ = some (.bool false) := (zah BK1.out 0).trans rfl; have hcz49_1 : w48.cell? ⟨gb1, 1, none⟩ = some (.slice none 0 0) := (zah BK1.out 1).trans rfl; have hcz49_2 : w48.cell? ⟨gb1, 2, none⟩ = some (.slice none 0 0) := (zah BK1.out 2).trans rfl; have hfz49_0 := zae BK1.out 0; have hfz49_1 := zae BK1.out 1; have hfz49_2 := zae BK1.out 2))
    refine bodyPost_ret (zba rfl _ _ gb1 41 #[.bool false, .slice none 0 0, .slice none 0 0] (0, 0) _ rfl (by (with_reducible repeat (first | refine zap ?_ _ | refine zar ?_ | refine zai ?_ _)); refine zaB (cs := #[.bool false, .slice none 0 0, .slice none 0 0]) ?_ 2 _ rfl; (with_reducible repeat (first | refine zap ?_ _ | refine zar ?_ | refine zai ?_ _)); refine zaB (cs := #[.bool false, .slice none 0 0, .slice none 0 0]) ?_ 1 _ rfl; (with_reducible repeat (first | refine zap ?_ _ | refine zar ?_ | refine zai ?_ _)); refine zaB (cs := #[.bool false, .slice none 0 0, .slice none 0 0]) ?_ 0 _ rfl; (with_reducible repeat (first | refine zap ?_ _ | refine zar ?_ | refine zai ?_ _)); exact BK1.out) Tryz.underlying41 rfl (by kernel_rfl)) rfl ?_
    exact ⟨_, _, by first | rfl | (simp [zaf, zag] <;> rfl) | (simp [*, zaf, zag] <;> rfl), by first | exact Kd.zcl _ _ _ _ _ | exact Kd.zdi _ _ _ _ _ | exact Kd.zcA _ _ _ _ _ | exact Kd.zdf _ _ _ _ _ | exact Kd.zdh _ _ _ _ _, by first | exact Kd.zcl _ _ _ _ _ | exact Kd.zdi _ _ _ _ _ | exact Kd.zcA _ _ _ _ _ | exact Kd.zdf _ _ _ _ _ | exact Kd.zdh _ _ _ _ _, lb⟩
  ·rw [if_neg c8] at H
   have c8b0 : (t8 == 0) = false := beq_eq_false_iff_ne.mpr c8
   have c8b1 : (t8 != 0) = true := bne_iff_ne.mpr c8
   simp only [Option.some.injEq, Prod.mk.injEq] at H
   obtain ⟨rfl, rfl, rfl, rfl⟩ := H
   try (have hdl_ : decide ((t6.length : Int) > 0) = decide (0 < t6.length) := decide_eq_decide.2 (by omega); simp only [hdl_])
   go_enter Tryz.func139, Tryz.ntmps139
   go_wp2_with (first | ((with_reducible refine zaA (N := 6) rfl ?_); (try (refine zcD (by rfl) ?_; dsimp only)); refine zaN ?hg (N := 6) ?hd (cs := #[.bool false, .slice none 0 0, .slice none 0 0]) (t := 41) ?hr ?_; (case hd => rfl); (case hg => rfl); (case hr => first | (go_simp; done) | (go_simp; rfl)); intro gb1 hg w50 hbox hb; have n0_ := zaa.mk (zab (lc HB.out) hb); have n1_ := zaa.mk (hbox); have n2_ := zaa.mk ((by rw [hg]; exact (zad (lc HB.out)) : w.heap.size ≤ gb1)); have n3_ := zaa.mk ((by rw [hg]; exact (zad (lc HB.out)) : w.heap.size ≤ gb1)); clear HB; have HB := n0_; have BK1 := n1_; have GW1 := n2_; have GE1 := n3_; clear n0_ n1_ n2_ n3_; clear hb hbox hg) | (go_at_call 130; (with_reducible refine (zbf.calls k _ _ l1 _ _ l2 t2 t3 _ ?side1 ?side2 ?side3 ?side4 A4.out).mono ?_); (case side1 => exact cc (Kd.zaY HR1.out HB.out)); (case side2 => exact HC1.out); (case side3 => exact cc (Kd.zaY HR2.out HB.out)); (case side4 => exact HC2.out); rintro e w51 ⟨v4, rfl, ho0, hb⟩; have n0_ := zaa.mk (Kd.zaz ho0 (zad lb)); have n1_ := zaa.mk (zak (g := gb1) (o := .cells #[.bool false, .slice none 0 0, .slice none 0 0] 41 (0, 0)) (bc BK1.out) hb); have n2_ := zaa.mk (zab lb hb); clear BK1; clear HB; have HO5 := n0_; have BK1 := n1_; have HB := n2_; clear n0_ n1_ n2_; (try clear hb); (try clear hb2); (try clear hk); (try clear hi); (try clear ho0); obtain ⟨Ao52, co52, eo52⟩ := Kd.zaC HO5.out; subst eo52) | (go_at_call 168; (with_reducible refine (zb9.calls _ _ l1 _ _ t2 t6 t7 t8 _ ?side1 ?side2 ?side3 ?side4 A6.out).mono ?_); (case side1 => exact cc (Kd.zaY HR1.out HB.out)); (case side2 => exact HC1.out); (case side3 => exact cc (Kd.zax HO5.out).2.2); (case side4 => exact (Kd.zax HO5.out).2.1); rintro e w53 ⟨v9, v11, rfl, ho0, ho1, hb⟩; have n0_ := zaa.mk (Kd.za7 (Kd.zbx (Kd.zbx (Kd.zc5 (rc HO5.out) hb) (Kd.zbk ho0)) (Kd.zbk ho1)) (fun _ h_ => h_.1)); have n1_ := zaa.mk (Kd.zaz (Kd.zbq ho0 (Kd.zcH (rc HO5.out))) (zad lb)); have n2_ := zaa.mk (Kd.zaz (Kd.zbq ho1 (Kd.zcH (rc HO5.out))) (zad lb)); have n3_ := zaa.mk (zak (g := gb1) (o := .cells #[.bool false, .slice none 0 0, .slice none 0 0] 41 (0, 0)) (bc BK1.out) hb); have n4_ := zaa.mk (zab lb hb); clear HO5; clear BK1; clear HB; have HO5 := n0_; have HO10 := n1_; have HO12 := n2_; have BK1 := n3_; have HB := n4_; clear n0_ n1_ n2_ n3_ n4_; (try clear hb); (try clear hb2); (try clear hk); (try clear hi); (try clear ho0); (try clear ho1)) | (go_at_call 168; (with_reducible refine (zb9.calls _ _ l2 _ _ t2 t13 t14 t15 _ ?side1 ?side2 ?side3 ?side4 A7.out).mono ?_); (case side1 => exact cc (Kd.zaY HR2.out HB.out)); (case side2 => exact HC2.out); (case side3 => exact cc (Kd.zax HO5.out).2.2); (case side4 => exact (Kd.zax HO5.out).2.1); rintro e w54 ⟨v16, v18, rfl, ho0, ho1, hb⟩; have n0_ := zaa.mk (Kd.za7 (Kd.zbx (Kd.zbx (Kd.zc5 (rc HO5.out) hb) (Kd.zbk ho0)) (Kd.zbk ho1)) (fun _ h_ => h_.1)); have n1_ := zaa.mk (Kd.za7 (Kd.zbx (Kd.zbx (Kd.zc5 (rc HO10.out) hb) (Kd.zbk ho0)) (Kd.zbk ho1)) (fun _ h_ => h_.1)); have n2_ := zaa.mk (Kd.za7 (Kd.zbx (Kd.zbx (Kd.zc5 (rc HO12.out) hb) (Kd.zbk ho0)) (Kd.zbk ho1)) (fun _ h_ => h_.1)); have n3_ := zaa.mk (Kd.zaz (Kd.zbq (Kd.zbq (Kd.zbq ho0 (Kd.zcH (rc HO5.out))) (Kd.zcH (rc HO10.out))) (Kd.zcH (rc HO12.out))) (zad lb)); have n4_ := zaa.mk (Kd.zaz (Kd.zbq (Kd.zbq (Kd.zbq ho1 (Kd.zcH (rc HO5.out))) (Kd.zcH (rc HO10.out))) (Kd.zcH (rc HO12.out))) (zad lb)); have n5_ := zaa.mk (zak (g := gb1) (o := .cells #[.bool false, .slice none 0 0, .slice none 0 0] 41 (0, 0)) (bc BK1.out) hb); have n6_ := zaa.mk (zab lb hb); clear HO5; clear HO10; clear HO12; clear BK1; clear HB; have HO5 := n0_; have HO10 := n1_; have HO12 := n2_; have HO17 := n3_; have HO19 := n4_; have BK1 := n5_; have HB := n6_; clear n0_ n1_ n2_ n3_ n4_ n5_ n6_; (try clear hb); (try clear hb2); (try clear hk); (try clear hi); (try clear ho0); (try clear ho1); have hcz55_0 : w54.cell? ⟨gb1, 0, none⟩ = some (.bool false) := (zah BK1.out 0).trans rfl; have hcz55_1 : w54.cell? ⟨gb1, 1, none⟩ = some (.slice none 0 0) := (zah BK1.out 1).trans rfl; have hcz55_2 : w54.cell? ⟨gb1, 2, none⟩ = some (.slice none 0 0) := (zah BK1.out 2).trans rfl; have hfz55_0 := zae BK1.out 0; have hfz55_1 := zae BK1.out 1; have hfz55_2 := zae BK1.out 2))
   refine bodyPost_ret (zba rfl _ _ gb1 41 #[.bool false, .slice none 0 0, .slice none 0 0] (0, 0) _ rfl (by (with_reducible repeat (first | refine zap ?_ _ | refine zar ?_ | refine zai ?_ _)); refine zaB (cs := #[.bool false, .slice none 0 0, .slice none 0 0]) ?_ 2 _ rfl; (with_reducible repeat (first | refine zap ?_ _ | refine zar ?_ | refine zai ?_ _)); refine zaB (cs := #[.bool false, .slice none 0 0, .slice none 0 0]) ?_ 1 _ rfl; (with_reducible repeat (first | refine zap ?_ _ | refine zar ?_ | refine zai ?_ _)); refine zaB (cs := #[.bool false, .slice none 0 0, .slice none 0 0]) ?_ 0 _ rfl; (with_reducible repeat (first | refine zap ?_ _ | refine zar ?_ | refine zai ?_ _)); exact BK1.out) Tryz.underlying41 rfl (by kernel_rfl)) rfl ?_
   exact ⟨_, _, by first | rfl | (simp [zaf, zag] <;> rfl) | (simp [*, zaf, zag] <;> rfl), by first | exact Kd.zcl _ _ _ _ _ | exact Kd.zdi _ _ _ _ _ | exact Kd.zcA _ _ _ _ _ | exact Kd.zdf _ _ _ _ _ | exact Kd.zdh _ _ _ _ _, by first | exact Kd.zcl _ _ _ _ _ | exact Kd.zdi _ _ _ _ _ | exact Kd.zcA _ _ _ _ _ | exact Kd.zdf _ _ _ _ _ | exact Kd.zdh _ _ _ _ _, lb⟩
 ·rw [if_neg c5] at H
  have c5b0 : (t3 == 0) = false := beq_eq_false_iff_ne.mpr c5
  have c5b1 : (t3 != 0) = true := bne_iff_ne.mpr c5
  simp only [Option.some.injEq, Prod.mk.injEq] at H
  obtain ⟨rfl, rfl, rfl, rfl⟩ := H
  try (have hdl_ : decide ((t6.length : Int) > 0) = decide (0 < t6.length) := decide_eq_decide.2 (by omega); simp only [hdl_])
  go_enter Tryz.func139, Tryz.ntmps139
  go_wp2_with (first | ((with_reducible refine zaA (N := 6) rfl ?_); (try (refine zcD (by rfl) ?_; dsimp only)); refine zaN ?hg (N := 6) ?hd (cs := #[.bool false, .slice none 0 0, .slice none 0 0]) (t := 41) ?hr ?_; (case hd => rfl); (case hg => rfl); (case hr => first | (go_simp; done) | (go_simp; rfl)); intro gb1 hg w56 hbox hb; have n0_ := zaa.mk (zab (lc HB.out) hb); have n1_ := zaa.mk (hbox); have n2_ := zaa.mk ((by rw [hg]; exact (zad (lc HB.out)) : w.heap.size ≤ gb1)); have n3_ := zaa.mk ((by rw [hg]; exact (zad (lc HB.out)) : w.heap.size ≤ gb1)); clear HB; have HB := n0_; have BK1 := n1_; have GW1 := n2_; have GE1 := n3_; clear n0_ n1_ n2_ n3_; clear hb hbox hg) | (go_at_call 130; (with_reducible refine (zbf.calls k _ _ l1 _ _ l2 t2 t3 _ ?side1 ?side2 ?side3 ?side4 A4.out).mono ?_); (case side1 => exact cc (Kd.zaY HR1.out HB.out)); (case side2 => exact HC1.out); (case side3 => exact cc (Kd.zaY HR2.out HB.out)); (case side4 => exact HC2.out); rintro e w57 ⟨v4, rfl, ho0, hb⟩; have n0_ := zaa.mk (Kd.zaz ho0 (zad lb)); have n1_ := zaa.mk (zak (g := gb1) (o := .cells #[.bool false, .slice none 0 0, .slice none 0 0] 41 (0, 0)) (bc BK1.out) hb); have n2_ := zaa.mk (zab lb hb); clear BK1; clear HB; have HO5 := n0_; have BK1 := n1_; have HB := n2_; clear n0_ n1_ n2_; (try clear hb); (try clear hb2); (try clear hk); (try clear hi); (try clear ho0); have hcz58_0 : w57.cell? ⟨gb1, 0, none⟩ = some (.bool false) := (zah BK1.out 0).trans rfl; have hcz58_1 : w57.cell? ⟨gb1, 1, none⟩ = some (.slice none 0 0) := (zah BK1.out 1).trans rfl; have hcz58_2 : w57.cell? ⟨gb1, 2, none⟩ = some (.slice none 0 0) := (zah BK1.out 2).trans rfl; have hfz58_0 := zae BK1.out 0; have hfz58_1 := zae BK1.out 1; have hfz58_2 := zae BK1.out 2))
  refine bodyPost_ret (zba rfl _ _ gb1 41 #[.bool false, .slice none 0 0, .slice none 0 0] (0, 0) _ rfl (by (with_reducible repeat (first | refine zap ?_ _ | refine zar ?_ | refine zai ?_ _)); refine zaB (cs := #[.bool false, .slice none 0 0, .slice none 0 0]) ?_ 2 _ rfl; (with_reducible repeat (first | refine zap ?_ _ | refine zar ?_ | refine zai ?_ _)); refine zaB (cs := #[.bool false, .slice none 0 0, .slice none 0 0]) ?_ 1 _ rfl; (with_reducible repeat (first | refine zap ?_ _ | refine zar ?_ | refine zai ?_ _)); refine zaB (cs := #[.bool false, .slice none 0 0, .slice none 0 0]) ?_ 0 _ rfl; (with_reducible repeat (first | refine zap ?_ _ | refine zar ?_ | refine zai ?_ _)); exact BK1.out) Tryz.underlying41 rfl (by kernel_rfl)) rfl ?_
  exact ⟨_, _, by first | rfl | (simp [zaf, zag] <;> rfl) | (simp [*, zaf, zag] <;> rfl), by first | exact Kd.zcl _ _ _ _ _ | exact Kd.zdi _ _ _ _ _ | exact Kd.zcA _ _ _ _ _ | exact Kd.zdf _ _ _ _ _ | exact Kd.zdh _ _ _ _ _, by first | exact Kd.zcl _ _ _ _ _ | exact Kd.zdi _ _ _ _ _ | exact Kd.zcA _ _ _ _ _ | exact Kd.zdf _ _ _ _ _ | exact Kd.zdh _ _ _ _ _, lb⟩
def zdu.f (k : Nat) (l0 : List Int) (l1 : List Int) : Option (List Int × Int) := (zby.f l0 l1).bind fun t1 => (if t1 = 0 then ((zaD.f k l0 l1).bind fun t2 => (some (t2, 0))) else (some (([] : List Int), t1)))
theorem zdu.mono : ∀ a0 a1 k, LeO (zdu.f k a0 a1) (zdu.f (k + 1) a0 a1) := by
 intro a0 a1 k
 unfold zdu.f
 repeat' with_reducible first | exact zaD.mono _ _ _ | exact LeO.refl _ | exact LeO.none _ | refine LeO.ite ?_ ?_ | refine LeO.bind ?_ (fun _ => ?_)
theorem zdu.calls (k : Nat) (A0 : Option Addr) (c0 : Nat) (l0 : List Int) (A1 : Option Addr) (c1 : Nat) (l1 : List Int) (r1 : List Int) (r2 : Int) (w : World) (hr0 : Kd.C (Kd.int .u32) w A0 l0.length l0) (hc0 : l0.length ≤ c0) (hr1 : Kd.C (Kd.int .u32) w A1 l1.length l1) (hc1 : l1.length ≤ c1) (h : zdu.f k l0 l1 = some (r1, r2)) :
  Calls Tryz.prog 193 #[.slice A0 l0.length c0, .slice A1 l1.length c1] w fun e w' => ∃ v0_ : Value, e = .returned (.tuple #[v0_, .int .i64 r2]) ∧ Kd.V (Kd.int .u32) 109 w' w.heap.size (fun k_ => (w.heap.size ≤ k_)) v0_ r1 ∧ Below w.heap.size w w' := by
 have HR0 := zaa.mk hr0
 have HC0 := zaa.mk hc0
 clear hr0 hc0
 have HR1 := zaa.mk hr1
 have HC1 := zaa.mk hc1
 clear hr1 hc1
 have HB := zaa.mk (Below.refl w.heap.size w)
 have H : ((zby.f l0 l1).bind fun t1 => (if t1 = 0 then ((zaD.f k l0 l1).bind fun t2 => (some (t2, 0))) else (some (([] : List Int), t1)))) = some (r1, r2) := h
 clear h
 replace H := zBE H
 obtain ⟨t1, A30, H⟩ := H
 replace H : (if t1 = 0 then ((zaD.f k l0 l1).bind fun t2 => (some (t2, 0))) else (some (([] : List Int), t1))) = some (r1, r2) := H
 have A3 := zaa.mk A30
 clear A30
 by_cases c4 : t1 = 0
 ·rw [if_pos c4] at H
  have c4b0 : (t1 == 0) = true := beq_iff_eq.mpr c4
  have c4b1 : (t1 != 0) = false := bne_eq_false_iff_eq.mpr c4
  clear c4
  replace H := zBE H
  obtain ⟨t2, A50, H⟩ := H
  replace H : (some (t2, 0)) = some (r1, r2) := H
  have A5 := zaa.mk A50
  clear A50
  simp only [Option.some.injEq, Prod.mk.injEq] at H
  obtain ⟨rfl, rfl⟩ := H
  go_enter Tryz.func193, Tryz.ntmps193
  go_wp2_with (first | (go_at_call 163; (with_reducible refine (zby.calls _ _ l0 _ _ l1 t1 _ ?side1 ?side2 ?side3 ?side4 A3.out).mono ?_); (case side1 => exact cc HR0.out); (case side2 => exact HC0.out); (case side3 => exact cc HR1.out); (case side4 => exact HC1.out); rintro e w' ⟨rfl, ⟨nd, rfl⟩⟩) | (go_at_call 135; (with_reducible refine (zaD.calls k _ _ l0 _ _ l1 t2 _ ?side1 ?side2 ?side3 ?side4 A5.out).mono ?_); (case side1 => exact cc HR0.out); (case side2 => exact HC0.out); (case side3 => exact cc HR1.out); (case side4 => exact HC1.out); rintro e w6 ⟨v3, rfl, ho0, hb⟩; have n0_ := zaa.mk (Kd.zbU (Kd.zbH (ok' := fun k_ => (w.heap.size ≤ k_)) ho0 (fun k_ hk_ => (Nat.le_trans (zad (lc HB.out)) hk_))) (zad (lc HB.out))); have n1_ := zaa.mk (zab (lc HB.out) hb); clear HB; have HO4 := n0_; have HB := n1_; clear n0_ n1_; (try clear hb); (try clear hb2); (try clear hk); (try clear hi); (try clear ho0)))
  go_ret2
  exact ⟨_, by first | rfl | (simp [zaf, zag] <;> rfl) | (simp [*, zaf, zag] <;> rfl), by (with_reducible repeat (first | apply Kd.zaZ | apply Kd.zbr | apply Kd.zbI)); exact HO4.out, lb⟩
 ·rw [if_neg c4] at H
  have c4b0 : (t1 == 0) = false := beq_eq_false_iff_ne.mpr c4
  have c4b1 : (t1 != 0) = true := bne_iff_ne.mpr c4
  simp only [Option.some.injEq, Prod.mk.injEq] at H
  obtain ⟨rfl, rfl⟩ := H
  go_enter Tryz.func193, Tryz.ntmps193
  go_wp2_with (first | (go_at_call 163; (with_reducible refine (zby.calls _ _ l0 _ _ l1 t1 _ ?side1 ?side2 ?side3 ?side4 A3.out).mono ?_); (case side1 => exact cc HR0.out); (case side2 => exact HC0.out); (case side3 => exact cc HR1.out); (case side4 => exact HC1.out); rintro e w' ⟨rfl, ⟨nd, rfl⟩⟩))
  go_ret2
  exact ⟨_, by first | rfl | (simp [zaf, zag] <;> rfl) | (simp [*, zaf, zag] <;> rfl), (Kd.zcA _ _ _ _ _), lb⟩
def zdb.f (k : Nat) (l0 : List Int) (l1 : List Int) : Option (Int) := (zby.f l0 l1).bind fun t1 => (if t1 = 0 then ((zaI.f k l0 l1).bind fun t2 => (some t2)) else (some 0))
theorem zdb.mono : ∀ a0 a1 k, LeO (zdb.f k a0 a1) (zdb.f (k + 1) a0 a1) := by
 intro a0 a1 k
 unfold zdb.f
 repeat' with_reducible first | exact zaI.mono _ _ _ | exact LeO.refl _ | exact LeO.none _ | refine LeO.ite ?_ ?_ | refine LeO.bind ?_ (fun _ => ?_)
theorem zdb.calls (k : Nat) (A0 : Option Addr) (c0 : Nat) (l0 : List Int) (A1 : Option Addr) (c1 : Nat) (l1 : List Int) (r : Int) (w : World) (hr0 : Kd.C (Kd.int .u32) w A0 l0.length l0) (hc0 : l0.length ≤ c0) (hr1 : Kd.C (Kd.int .u32) w A1 l1.length l1) (hc1 : l1.length ≤ c1) (h : zdb.f k l0 l1 = some r) :
  Calls Tryz.prog 194 #[.slice A0 l0.length c0, .slice A1 l1.length c1] w fun e w' => e = .returned (.int .i64 r) ∧ Below w.heap.size w w' := by
 have HR0 := zaa.mk hr0
 have HC0 := zaa.mk hc0
 clear hr0 hc0
 have HR1 := zaa.mk hr1
 have HC1 := zaa.mk hc1
 clear hr1 hc1
 have HB := zaa.mk (Below.refl w.heap.size w)
 have H : ((zby.f l0 l1).bind fun t1 => (if t1 = 0 then ((zaI.f k l0 l1).bind fun t2 => (some t2)) else (some 0))) = some r := h
 clear h
 replace H := zBE H
 obtain ⟨t1, A30, H⟩ := H
 replace H : (if t1 = 0 then ((zaI.f k l0 l1).bind fun t2 => (some t2)) else (some 0)) = some r := H
 have A3 := zaa.mk A30
 clear A30
 by_cases c4 : t1 = 0
 ·rw [if_pos c4] at H
  have c4b0 : (t1 == 0) = true := beq_iff_eq.mpr c4
  have c4b1 : (t1 != 0) = false := bne_eq_false_iff_eq.mpr c4
  clear c4
  replace H := zBE H
  obtain ⟨t2, A50, H⟩ := H
  replace H : (some t2) = some r := H
  have A5 := zaa.mk A50
  clear A50
  obtain rfl := Option.some.inj H
  go_enter Tryz.func194, Tryz.ntmps194
  go_wp2_with (first | (go_at_call 163; (with_reducible refine (zby.calls _ _ l0 _ _ l1 t1 _ ?side1 ?side2 ?side3 ?side4 A3.out).mono ?_); (case side1 => exact cc HR0.out); (case side2 => exact HC0.out); (case side3 => exact cc HR1.out); (case side4 => exact HC1.out); rintro e w' ⟨rfl, ⟨nd, rfl⟩⟩) | (go_at_call 187; (with_reducible refine (zaI.calls k _ _ l0 _ _ l1 t2 _ ?side1 ?side2 ?side3 ?side4 A5.out).mono ?_); (case side1 => exact cc HR0.out); (case side2 => exact HC0.out); (case side3 => exact cc HR1.out); (case side4 => exact HC1.out); rintro e w6 ⟨rfl, hb⟩; have n0_ := zaa.mk (zab (lc HB.out) hb); clear HB; have HB := n0_; clear n0_; (try clear hb); (try clear hb2); (try clear hk); (try clear hi)))
  go_ret
  exact ⟨by first | rfl | (simp [zaf, zag] <;> rfl) | (simp [*, zaf, zag] <;> rfl), lb⟩
 ·rw [if_neg c4] at H
  have c4b0 : (t1 == 0) = false := beq_eq_false_iff_ne.mpr c4
  have c4b1 : (t1 != 0) = true := bne_iff_ne.mpr c4
  obtain rfl := Option.some.inj H
  go_enter Tryz.func194, Tryz.ntmps194
  go_wp2_with (first | (go_at_call 163; (with_reducible refine (zby.calls _ _ l0 _ _ l1 t1 _ ?side1 ?side2 ?side3 ?side4 A3.out).mono ?_); (case side1 => exact cc HR0.out); (case side2 => exact HC0.out); (case side3 => exact cc HR1.out); (case side4 => exact HC1.out); rintro e w' ⟨rfl, ⟨nd, rfl⟩⟩))
  go_ret
  exact ⟨by first | rfl | (simp [zaf, zag] <;> rfl) | (simp [*, zaf, zag] <;> rfl), lb⟩
def zcq.f (k : Nat) (l0 : List Int) (l1 : List Int) : Option (List Int × Int) := (zby.f l0 l1).bind fun t1 => (if t1 = 0 then ((zaI.f k l0 l1).bind fun t2 => (if t2 < 0 then (some (([] : List Int), 9)) else ((za0.f k l0 l1).bind fun t3 => (some (t3, 0))))) else (some (([] : List Int), t1)))
theorem zcq.mono : ∀ a0 a1 k, LeO (zcq.f k a0 a1) (zcq.f (k + 1) a0 a1) := by
 intro a0 a1 k
 unfold zcq.f
 repeat' with_reducible first | exact zaI.mono _ _ _ | exact za0.mono _ _ _ | exact LeO.refl _ | exact LeO.none _ | refine LeO.ite ?_ ?_ | refine LeO.bind ?_ (fun _ => ?_)
theorem zcq.calls (k : Nat) (A0 : Option Addr) (c0 : Nat) (l0 : List Int) (A1 : Option Addr) (c1 : Nat) (l1 : List Int) (r1 : List Int) (r2 : Int) (w : World) (hr0 : Kd.C (Kd.int .u32) w A0 l0.length l0) (hc0 : l0.length ≤ c0) (hr1 : Kd.C (Kd.int .u32) w A1 l1.length l1) (hc1 : l1.length ≤ c1) (h : zcq.f k l0 l1 = some (r1, r2)) :
  Calls Tryz.prog 195 #[.slice A0 l0.length c0, .slice A1 l1.length c1] w fun e w' => ∃ v0_ : Value, e = .returned (.tuple #[v0_, .int .i64 r2]) ∧ Kd.V (Kd.int .u32) 109 w' w.heap.size (fun k_ => (w.heap.size ≤ k_)) v0_ r1 ∧ Below w.heap.size w w' := by
 have HR0 := zaa.mk hr0
 have HC0 := zaa.mk hc0
 clear hr0 hc0
 have HR1 := zaa.mk hr1
 have HC1 := zaa.mk hc1
 clear hr1 hc1
 have HB := zaa.mk (Below.refl w.heap.size w)
 have H : ((zby.f l0 l1).bind fun t1 => (if t1 = 0 then ((zaI.f k l0 l1).bind fun t2 => (if t2 < 0 then (some (([] : List Int), 9)) else ((za0.f k l0 l1).bind fun t3 => (some (t3, 0))))) else (some (([] : List Int), t1)))) = some (r1, r2) := h
 clear h
 replace H := zBE H
 obtain ⟨t1, A30, H⟩ := H
 replace H : (if t1 = 0 then ((zaI.f k l0 l1).bind fun t2 => (if t2 < 0 then (some (([] : List Int), 9)) else ((za0.f k l0 l1).bind fun t3 => (some (t3, 0))))) else (some (([] : List Int), t1))) = some (r1, r2) := H
 have A3 := zaa.mk A30
 clear A30
 by_cases c4 : t1 = 0
 ·rw [if_pos c4] at H
  have c4b0 : (t1 == 0) = true := beq_iff_eq.mpr c4
  have c4b1 : (t1 != 0) = false := bne_eq_false_iff_eq.mpr c4
  clear c4
  replace H := zBE H
  obtain ⟨t2, A50, H⟩ := H
  replace H : (if t2 < 0 then (some (([] : List Int), 9)) else ((za0.f k l0 l1).bind fun t3 => (some (t3, 0)))) = some (r1, r2) := H
  have A5 := zaa.mk A50
  clear A50
  by_cases c6 : t2 < 0
  ·rw [if_pos c6] at H
   have c6b0 : decide (t2 < 0) = true := zDT c6
   clear c6
   simp only [Option.some.injEq, Prod.mk.injEq] at H
   obtain ⟨rfl, rfl⟩ := H
   go_enter Tryz.func195, Tryz.ntmps195
   go_wp2_with (first | (go_at_call 163; (with_reducible refine (zby.calls _ _ l0 _ _ l1 t1 _ ?side1 ?side2 ?side3 ?side4 A3.out).mono ?_); (case side1 => exact cc HR0.out); (case side2 => exact HC0.out); (case side3 => exact cc HR1.out); (case side4 => exact HC1.out); rintro e w' ⟨rfl, ⟨nd, rfl⟩⟩) | (go_at_call 187; (with_reducible refine (zaI.calls k _ _ l0 _ _ l1 t2 _ ?side1 ?side2 ?side3 ?side4 A5.out).mono ?_); (case side1 => exact cc HR0.out); (case side2 => exact HC0.out); (case side3 => exact cc HR1.out); (case side4 => exact HC1.out); rintro e w7 ⟨rfl, hb⟩; have n0_ := zaa.mk (zab (lc HB.out) hb); clear HB; have HB := n0_; clear n0_; (try clear hb); (try clear hb2); (try clear hk); (try clear hi)))
   go_ret2
   exact ⟨_, by first | rfl | (simp [zaf, zag] <;> rfl) | (simp [*, zaf, zag] <;> rfl), (Kd.zcA _ _ _ _ _), lb⟩
  ·rw [if_neg c6] at H
   have c6b0 : decide (t2 < 0) = false := zDF c6
   clear c6
   replace H := zBE H
   obtain ⟨t3, A80, H⟩ := H
   replace H : (some (t3, 0)) = some (r1, r2) := H
   have A8 := zaa.mk A80
   clear A80
   simp only [Option.some.injEq, Prod.mk.injEq] at H
   obtain ⟨rfl, rfl⟩ := H
   go_enter Tryz.func195, Tryz.ntmps195
   go_wp2_with (first | (go_at_call 163; (with_reducible refine (zby.calls _ _ l0 _ _ l1 t1 _ ?side1 ?side2 ?side3 ?side4 A3.out).mono ?_); (case side1 => exact cc HR0.out); (case side2 => exact HC0.out); (case side3 => exact cc HR1.out); (case side4 => exact HC1.out); rintro e w' ⟨rfl, ⟨nd, rfl⟩⟩) | (go_at_call 187; (with_reducible refine (zaI.calls k _ _ l0 _ _ l1 t2 _ ?side1 ?side2 ?side3 ?side4 A5.out).mono ?_); (case side1 => exact cc HR0.out); (case side2 => exact HC0.out); (case side3 => exact cc HR1.out); (case side4 => exact HC1.out); rintro e w9 ⟨rfl, hb⟩; have n0_ := zaa.mk (zab (lc HB.out) hb); clear HB; have HB := n0_; clear n0_; (try clear hb); (try clear hb2); (try clear hk); (try clear hi)) | (go_at_call 191; (with_reducible refine (za0.calls k _ _ l0 _ _ l1 t3 _ ?side1 ?side2 ?side3 ?side4 A8.out).mono ?_); (case side1 => exact cc (Kd.zaY HR0.out HB.out)); (case side2 => exact HC0.out); (case side3 => exact cc (Kd.zaY HR1.out HB.out)); (case side4 => exact HC1.out); rintro e w10 ⟨v4, rfl, ho0, hb⟩; have n0_ := zaa.mk (Kd.zbU (Kd.zbH (ok' := fun k_ => (w.heap.size ≤ k_)) ho0 (fun k_ hk_ => (Nat.le_trans (zad (lc HB.out)) hk_))) (zad (lc HB.out))); have n1_ := zaa.mk (zab (lc HB.out) hb); clear HB; have HO5 := n0_; have HB := n1_; clear n0_ n1_; (try clear hb); (try clear hb2); (try clear hk); (try clear hi); (try clear ho0)))
   go_ret2
   exact ⟨_, by first | rfl | (simp [zaf, zag] <;> rfl) | (simp [*, zaf, zag] <;> rfl), by (with_reducible repeat (first | apply Kd.zaZ | apply Kd.zbr | apply Kd.zbI)); exact HO5.out, lb⟩
 ·rw [if_neg c4] at H
  have c4b0 : (t1 == 0) = false := beq_eq_false_iff_ne.mpr c4
  have c4b1 : (t1 != 0) = true := bne_iff_ne.mpr c4
  simp only [Option.some.injEq, Prod.mk.injEq] at H
  obtain ⟨rfl, rfl⟩ := H
  go_enter Tryz.func195, Tryz.ntmps195
  go_wp2_with (first | (go_at_call 163; (with_reducible refine (zby.calls _ _ l0 _ _ l1 t1 _ ?side1 ?side2 ?side3 ?side4 A3.out).mono ?_); (case side1 => exact cc HR0.out); (case side2 => exact HC0.out); (case side3 => exact cc HR1.out); (case side4 => exact HC1.out); rintro e w' ⟨rfl, ⟨nd, rfl⟩⟩))
  go_ret2
  exact ⟨_, by first | rfl | (simp [zaf, zag] <;> rfl) | (simp [*, zaf, zag] <;> rfl), (Kd.zcA _ _ _ _ _), lb⟩
def zch.f (k : Nat) (a0 : Bool) (l1 : List Int) (a2 : Bool) (l3 : List Int) : Option (Bool × List Int) := if (a0 == a2) = true then ((zdu.f k l1 l3).bind fun bt1 => (some (a0, bt1.1))) else ((zdb.f k l1 l3).bind fun t5 => (if t5 < 0 then ((zcq.f k l3 l1).bind fun bt6 => (some (a2, bt6.1))) else ((zcq.f k l1 l3).bind fun bt10 => (some (a0, bt10.1)))))
theorem zch.mono : ∀ a0 a1 a2 a3 k, LeO (zch.f k a0 a1 a2 a3) (zch.f (k + 1) a0 a1 a2 a3) := by
 intro a0 a1 a2 a3 k
 unfold zch.f
 repeat' with_reducible first | exact zdu.mono _ _ _ | exact zdb.mono _ _ _ | exact zcq.mono _ _ _ | exact LeO.refl _ | exact LeO.none _ | refine LeO.ite ?_ ?_ | refine LeO.bind ?_ (fun _ => ?_)
theorem zch.calls (k : Nat) (a0 : Bool) (A1 : Option Addr) (c1 : Nat) (l1 : List Int) (a2 : Bool) (A3 : Option Addr) (c3 : Nat) (l3 : List Int) (r1 : Bool) (r2 : List Int) (w : World) (hr1 : Kd.C (Kd.int .u32) w A1 l1.length l1) (hc1 : l1.length ≤ c1) (hr3 : Kd.C (Kd.int .u32) w A3 l3.length l3) (hc3 : l3.length ≤ c3) (h : zch.f k a0 l1 a2 l3 = some (r1, r2)) :
  Calls Tryz.prog 169 #[.bool a0, .slice A1 l1.length c1, .bool a2, .slice A3 l3.length c3] w fun e w' => ∃ v1_ : Value, e = .returned (.tuple #[.bool r1, v1_]) ∧ Kd.V (Kd.int .u32) 109 w' w.heap.size (fun k_ => (w.heap.size ≤ k_)) v1_ r2 ∧ Below w.heap.size w w' := by
 have HR1 := zaa.mk hr1
 have HC1 := zaa.mk hc1
 clear hr1 hc1
 have HR3 := zaa.mk hr3
 have HC3 := zaa.mk hc3
 clear hr3 hc3
 have HB := zaa.mk (Below.refl w.heap.size w)
 have H : (if (a0 == a2) = true then ((zdu.f k l1 l3).bind fun bt1 => (some (a0, bt1.1))) else ((zdb.f k l1 l3).bind fun t5 => (if t5 < 0 then ((zcq.f k l3 l1).bind fun bt6 => (some (a2, bt6.1))) else ((zcq.f k l1 l3).bind fun bt10 => (some (a0, bt10.1)))))) = some (r1, r2) := h
 clear h
 by_cases c5 : (a0 == a2) = true
 ·rw [if_pos c5] at H
  have c5b0 : (a0 == a2) = true := c5
  (try (have c5b1 : decide (a0 = a2) = true := by simpa using c5))
  (try (have c5b2 : (a0 == a2) = true := by simpa using c5))
  clear c5
  replace H := zBE H
  obtain ⟨⟨t1, t4⟩, A60, H⟩ := H
  replace H : (some (a0, t1)) = some (r1, r2) := H
  have A6 := zaa.mk A60
  clear A60
  simp only [Option.some.injEq, Prod.mk.injEq] at H
  obtain ⟨rfl, rfl⟩ := H
  go_enter Tryz.func169, Tryz.ntmps169
  go_wp2_with (first | (go_at_call 193; (with_reducible refine (zdu.calls k _ _ l1 _ _ l3 t1 t4 _ ?side1 ?side2 ?side3 ?side4 A6.out).mono ?_); (case side1 => exact cc HR1.out); (case side2 => exact HC1.out); (case side3 => exact cc HR3.out); (case side4 => exact HC3.out); rintro e w7 ⟨v2, rfl, ho0, hb⟩; have n0_ := zaa.mk (Kd.zbU (Kd.zbH (ok' := fun k_ => (w.heap.size ≤ k_)) ho0 (fun k_ hk_ => (Nat.le_trans (zad (lc HB.out)) hk_))) (zad (lc HB.out))); have n1_ := zaa.mk (zab (lc HB.out) hb); clear HB; have HO3 := n0_; have HB := n1_; clear n0_ n1_; (try clear hb); (try clear hb2); (try clear hk); (try clear hi); (try clear ho0)))
  go_ret2
  exact ⟨_, by first | rfl | (simp [zaf, zag] <;> rfl) | (simp [*, zaf, zag] <;> rfl), by (with_reducible repeat (first | apply Kd.zaZ | apply Kd.zbr | apply Kd.zbI)); exact HO3.out, lb⟩
 ·rw [if_neg c5] at H
  have c5b0 : (a0 == a2) = false := by simpa using c5
  (try (have c5b1 : decide (a0 = a2) = false := by simpa using c5))
  (try (have c5b2 : (a0 == a2) = false := by simpa using c5))
  (try (have c5b3 : ¬ (a0 = a2) := by simpa using c5))
  clear c5
  replace H := zBE H
  obtain ⟨t5, A80, H⟩ := H
  replace H : (if t5 < 0 then ((zcq.f k l3 l1).bind fun bt6 => (some (a2, bt6.1))) else ((zcq.f k l1 l3).bind fun bt10 => (some (a0, bt10.1)))) = some (r1, r2) := H
  have A8 := zaa.mk A80
  clear A80
  by_cases c9 : t5 < 0
  ·rw [if_pos c9] at H
   have c9b0 : decide (t5 < 0) = true := zDT c9
   clear c9
   replace H := zBE H
   obtain ⟨⟨t6, t9⟩, A100, H⟩ := H
   replace H : (some (a2, t6)) = some (r1, r2) := H
   have A10 := zaa.mk A100
   clear A100
   simp only [Option.some.injEq, Prod.mk.injEq] at H
   obtain ⟨rfl, rfl⟩ := H
   go_enter Tryz.func169, Tryz.ntmps169
   go_wp2_with (first | (go_at_call 194; (with_reducible refine (zdb.calls k _ _ l1 _ _ l3 t5 _ ?side1 ?side2 ?side3 ?side4 A8.out).mono ?_); (case side1 => exact cc HR1.out); (case side2 => exact HC1.out); (case side3 => exact cc HR3.out); (case side4 => exact HC3.out); rintro e w11 ⟨rfl, hb⟩; have n0_ := zaa.mk (zab (lc HB.out) hb); clear HB; have HB := n0_; clear n0_; (try clear hb); (try clear hb2); (try clear hk); (try clear hi)) | (go_at_call 195; (with_reducible refine (zcq.calls k _ _ l3 _ _ l1 t6 t9 _ ?side1 ?side2 ?side3 ?side4 A10.out).mono ?_); (case side1 => exact cc (Kd.zaY HR3.out HB.out)); (case side2 => exact HC3.out); (case side3 => exact cc (Kd.zaY HR1.out HB.out)); (case side4 => exact HC1.out); rintro e w12 ⟨v7, rfl, ho0, hb⟩; have n0_ := zaa.mk (Kd.zbU (Kd.zbH (ok' := fun k_ => (w.heap.size ≤ k_)) ho0 (fun k_ hk_ => (Nat.le_trans (zad (lc HB.out)) hk_))) (zad (lc HB.out))); have n1_ := zaa.mk (zab (lc HB.out) hb); clear HB; have HO8 := n0_; have HB := n1_; clear n0_ n1_; (try clear hb); (try clear hb2); (try clear hk); (try clear hi); (try clear ho0)))
   go_ret2
   exact ⟨_, by first | rfl | (simp [zaf, zag] <;> rfl) | (simp [*, zaf, zag] <;> rfl), by (with_reducible repeat (first | apply Kd.zaZ | apply Kd.zbr | apply Kd.zbI)); exact HO8.out, lb⟩
  ·rw [if_neg c9] at H
   have c9b0 : decide (t5 < 0) = false := zDF c9
   clear c9
   replace H := zBE H
   obtain ⟨⟨t10, t13⟩, A130, H⟩ := H
   replace H : (some (a0, t10)) = some (r1, r2) := H
   have A13 := zaa.mk A130
   clear A130
   simp only [Option.some.injEq, Prod.mk.injEq] at H
   obtain ⟨rfl, rfl⟩ := H
   go_enter Tryz.func169, Tryz.ntmps169
   go_wp2_with (first | (go_at_call 194; (with_reducible refine (zdb.calls k _ _ l1 _ _ l3 t5 _ ?side1 ?side2 ?side3 ?side4 A8.out).mono ?_); (case side1 => exact cc HR1.out); (case side2 => exact HC1.out); (case side3 => exact cc HR3.out); (case side4 => exact HC3.out); rintro e w14 ⟨rfl, hb⟩; have n0_ := zaa.mk (zab (lc HB.out) hb); clear HB; have HB := n0_; clear n0_; (try clear hb); (try clear hb2); (try clear hk); (try clear hi)) | (go_at_call 195; (with_reducible refine (zcq.calls k _ _ l1 _ _ l3 t10 t13 _ ?side1 ?side2 ?side3 ?side4 A13.out).mono ?_); (case side1 => exact cc (Kd.zaY HR1.out HB.out)); (case side2 => exact HC1.out); (case side3 => exact cc (Kd.zaY HR3.out HB.out)); (case side4 => exact HC3.out); rintro e w15 ⟨v11, rfl, ho0, hb⟩; have n0_ := zaa.mk (Kd.zbU (Kd.zbH (ok' := fun k_ => (w.heap.size ≤ k_)) ho0 (fun k_ hk_ => (Nat.le_trans (zad (lc HB.out)) hk_))) (zad (lc HB.out))); have n1_ := zaa.mk (zab (lc HB.out) hb); clear HB; have HO12 := n0_; have HB := n1_; clear n0_ n1_; (try clear hb); (try clear hb2); (try clear hk); (try clear hi); (try clear ho0)))
   go_ret2
   exact ⟨_, by first | rfl | (simp [zaf, zag] <;> rfl) | (simp [*, zaf, zag] <;> rfl), by (with_reducible repeat (first | apply Kd.zaZ | apply Kd.zbr | apply Kd.zbI)); exact HO12.out, lb⟩
end Go.Proofs.YtioofhilohmfbaaGreatDoor.P
end
section
open Go Go.RowKit Go.Lib PrintWords PrintLast PrintMore
namespace Go.Proofs.YtioofhilohmfbaaGreatDoor.P
theorem cells3 {W : World} {g : Nat} {t : TypeId} {a b c : Value} (h : W.heap[g]? = some (.cells #[a, b, c] t (0, 0))) : W.cell? ⟨g, 0, none⟩ = some a ∧ W.cell? ⟨g, 1, none⟩ = some b ∧ W.cell? ⟨g, 2, none⟩ = some c := ⟨zah h 0, zah h 1, zah h 2⟩
theorem six {W : World} {g1 g2 : Nat} {t1 t2 : TypeId} {a b c d e f : Value} (h1 : W.heap[g1]? = some (.cells #[a, b, c] t1 (0, 0))) (h2 : W.heap[g2]? = some (.cells #[d, e, f] t2 (0, 0))) : W.cell? ⟨g1, 0, none⟩ = some a ∧ W.cell? ⟨g1, 1, none⟩ = some b ∧ W.cell? ⟨g1, 2, none⟩ = some c ∧ W.cell? ⟨g2, 0, none⟩ = some d ∧ W.cell? ⟨g2, 1, none⟩ = some e ∧ W.cell? ⟨g2, 2, none⟩ = some f := ⟨zah h1 0, zah h1 1, zah h1 2, zah h2 0, zah h2 1, zah h2 2⟩
theorem zjL {W : World} {g1 g2 g3 : Nat} {t1 t2 : TypeId} {a b c d e f : Value} (h1 : W.heap[g1]? = some (.cells #[a, b, c] t1 (0, 0))) (h2 : W.heap[g2]? = some (.cells #[d, e, f] t2 (0, 0))) (n1 : g1 ≠ g3) (n2 : g2 ≠ g3) (u v x : Value) : (fun W : World => W.cell? ⟨g1, 0, none⟩ = some a ∧ W.cell? ⟨g1, 1, none⟩ = some b ∧ W.cell? ⟨g1, 2, none⟩ = some c ∧ W.cell? ⟨g2, 0, none⟩ = some d ∧ W.cell? ⟨g2, 1, none⟩ = some e ∧ W.cell? ⟨g2, 2, none⟩ = some f) (((W.setCell ⟨g3, 0, none⟩ u).setCell ⟨g3, 1, none⟩ v).setCell ⟨g3, 2, none⟩ x) :=
 six (zdT (p := ⟨g3, 2, none⟩) (zdT (p := ⟨g3, 1, none⟩) (zdT (p := ⟨g3, 0, none⟩) h1 n1 u) n1 v) n1 x) (zdT (p := ⟨g3, 2, none⟩) (zdT (p := ⟨g3, 1, none⟩) (zdT (p := ⟨g3, 0, none⟩) h2 n2 u) n2 v) n2 x)
theorem zdY (w : World) (o : Obj) {g : Nat} (h : g = w.heap.size) : (w.alloc o).heap[g]? = some o := by subst h; exact zcv w o
theorem zeg {W : World} {g : Nat} {t : TypeId} {cs : Array Value} (h : W.heap[g]? = some (.cells cs t (0, 0))) : W.frozen? ⟨g, 0, none⟩ = false ∧ W.frozen? ⟨g, 1, none⟩ = false ∧ W.frozen? ⟨g, 2, none⟩ = false := ⟨zae h 0, zae h 1, zae h 2⟩
theorem zpo {W : World} {g : Nat} {t : TypeId} {a b c : Value} (h : W.heap[g]? = some (.cells #[a, b, c] t (0, 0))) (u v x : Value) : (((W.setCell ⟨g, 0, none⟩ u).setCell ⟨g, 1, none⟩ v).setCell ⟨g, 2, none⟩ x).heap[g]? = some (.cells #[u, v, x] t (0, 0)) :=
 zaB (zaB (zaB h 0 u (cs' := #[u, b, c]) rfl) 1 v (cs' := #[u, v, c]) rfl) 2 x rfl
theorem zjM {w W : World} {g : Nat} (h : Below w.heap.size w W) (hg : w.heap.size ≤ g) (u v x : Value) : Below w.heap.size w (((W.setCell ⟨g, 0, none⟩ u).setCell ⟨g, 1, none⟩ v).setCell ⟨g, 2, none⟩ x) := zbo (zbo (zbo h hg) hg) hg
theorem zlf {e base g : Nat} {W : World} {ok : Nat → Prop} {v : Value} {xs : List Int} (h : Kd.R (Kd.int .u32) e W base ok v xs) (hg : g < base) (u0 u1 u2 : Value) : Kd.R (Kd.int .u32) e (((W.setCell ⟨g, 0, none⟩ u0).setCell ⟨g, 1, none⟩ u1).setCell ⟨g, 2, none⟩ u2) base ok v xs :=
 Kd.za7 (Kd.zck (p := ⟨g, 2, none⟩) (Kd.zck (p := ⟨g, 1, none⟩) (Kd.zck (p := ⟨g, 0, none⟩) (Kd.za7 (ok' := fun k => ok k ∧ k ≠ g) (Kd.zdp h) (fun k hk => ⟨hk.1, by have := hk.2.1; omega⟩)) (fun _ hk => hk.2) u0) (fun _ hk => hk.2) u1) (fun _ hk => hk.2) u2) (fun _ hk => hk.1)
def Row (w : World) (A : Option Addr) (c : Nat) (l : List Int) : Prop := ∀ W, Below w.heap.size w W → Kd.V (Kd.int .u32) 109 W w.heap.size (fun _ => True) (.slice A l.length c) l
theorem Row.mk {w : World} {A : Option Addr} {c b : Nat} {l : List Int} {ok : Nat → Prop} (h : Kd.V (Kd.int .u32) 109 w b ok (.slice A l.length c) l) : Row w A c l := fun W hb => Kd.zfA (Kd.zaW (Kd.zbH h (fun _ _ => trivial)) hb) (fun _ h => h)
theorem Row.to {w W : World} {A : Option Addr} {c : Nat} {l : List Int} (h : Row w A c l) (hb : Below w.heap.size w W) : Kd.V (Kd.int .u32) 109 W w.heap.size (fun _ => True) (.slice A l.length c) l := h W hb
theorem zqn {W : World} {g b1 b2 : Nat} {t : TypeId} {A B : Option Addr} {l m : List Int} {c d : Nat} (hb : W.heap[g]? = some (.cells #[.slice A l.length c, .slice B m.length d] t (0, 0))) (h1 : Kd.V (Kd.int .u32) 109 W b1 (fun _ => True) (.slice A l.length c) l) (h2 : Kd.V (Kd.int .u32) 109 W b2 (fun _ => True) (.slice B m.length d) m) : Kd.C (Kd.slice 109 (Kd.int .u32)) W (some ⟨g, 0, none⟩) 2 [l, m] := by
 refine ⟨rfl, by decide, fun _ => ⟨_, rfl, fun j p hj => ?_⟩⟩
 match j, hj with
 | 0, hj =>
  cases hj
  exact ⟨[.slice A l.length c], rfl, ⟨A, c, rfl, (Kd.zaq h1).2.1, (Kd.zaq h1).2.2⟩, fun i u hu => by
   have hi : i = 0 := by have := (List.getElem?_eq_some_iff.1 hu).1; simp at this; omega
   subst hi
   cases hu
   exact zah hb 0⟩
 | 1, hj =>
  cases hj
  exact ⟨[.slice B m.length d], rfl, ⟨B, d, rfl, (Kd.zaq h2).2.1, (Kd.zaq h2).2.2⟩, fun i u hu => by
   have hi : i = 0 := by have := (List.getElem?_eq_some_iff.1 hu).1; simp at this; omega
   subst hi
   cases hu
   exact zah hb 1⟩
 | j + 2, hj => simp at hj
theorem zdZ (k : Nat) {l m : List Int} {A B : Option Addr} {c d : Nat} (t : List Int) (W : World) {g b1 b2 : Nat} {ty : TypeId} (h : zas.f k [l, m] = some t) (h1 : Kd.V (Kd.int .u32) 109 W b1 (fun _ => True) (.slice A l.length c) l) (h2 : Kd.V (Kd.int .u32) 109 W b2 (fun _ => True) (.slice B m.length d) m) (hb : W.heap[g]? = some (.cells #[.slice A l.length c, .slice B m.length d] ty (0, 0))) :
  Calls Tryz.prog 144 #[.slice (some ⟨g, 0, none⟩) 2 2] W fun e w' => ∃ v0_ : Value, e = .returned v0_ ∧ Kd.V (Kd.int .u32) 109 w' W.heap.size (fun k_ => W.heap.size ≤ k_) v0_ t ∧ Below W.heap.size W w' :=
 zas.calls k (some ⟨g, 0, none⟩) 2 [l, m] t W (zqn hb h1 h2) (Nat.le_refl 2) h
theorem zpp {w4 W w' : World} {g : Nat} (_ : Below W.heap.size W w') (h : Below w4.heap.size w4 W → g < W.heap.size) (hb : Below w4.heap.size w4 W) : g < W.heap.size := h hb
theorem zpq {w W w' : World} (_ : Below W.heap.size W w') (hb : Below w.heap.size w W) : w.heap.size ≤ W.heap.size := zad hb
def zdH (w : World) (r1 : Bool) (r2 r3 : List Int) (r4 : Int) (e : Ending) (w' : World) : Prop := ∃ v1_ v2_ : Value, e = .returned (.tuple #[.agg #[.bool r1, v1_, v2_], .int .i64 r4]) ∧ Kd.R (Kd.int .u32) 109 w' w.heap.size (fun k_ => some k_ ≠ v2_.ownBlock) v1_ r2 ∧ Kd.R (Kd.int .u32) 109 w' w.heap.size (fun k_ => some k_ ≠ v1_.ownBlock) v2_ r3 ∧ Below w.heap.size w w'
def zdI.f (k : Nat) (a0_0 : Bool) (l0_1 : List Int) (l0_2 : List Int) (a1_0 : Bool) (l1_1 : List Int) (l1_2 : List Int) : Option (Bool × List Int × List Int × Int) := (zbv.f k a0_0 l0_1 l0_2 a1_0 l1_1 l1_2).bind fun t4 => (if t4 = 0 then ((zas.f k (([l0_1, l1_1] : List (List Int)))).bind fun t8 => ((zas.f k (([l0_2, l1_2] : List (List Int)))).bind fun t14 => ((zaL.f k (a0_0 != a1_0) t8 t14).bind fun bt17 => (some (bt17.1, bt17.2.1, bt17.2.2.1, bt17.2.2.2))))) else (some (false, ([] : List Int), ([] : List Int), t4)))
theorem zdI.mono : ∀ a0 a1 a2 a3 a4 a5 k, LeO (zdI.f k a0 a1 a2 a3 a4 a5) (zdI.f (k + 1) a0 a1 a2 a3 a4 a5) := by
 intro a0 a1 a2 a3 a4 a5 k
 unfold zdI.f
 repeat' first
   |(with_reducible exact zbv.mono _ _ _ _ _ _ _)
   |(with_reducible exact zas.mono _ _)
   |(with_reducible exact zaL.mono _ _ _ _)
   |(with_reducible exact LeO.refl _)
   |(with_reducible exact LeO.none _)
   |(with_reducible refine LeO.ite ?_ ?_)
   | (with_reducible refine LeO.bind ?_ (fun _ => ?_))
   |exact zbv.mono _ _ _ _ _ _ _
   |exact zas.mono _ _
   |exact zaL.mono _ _ _ _
   |exact LeO.none _
   |refine LeO.ite ?_ ?_
   | refine LeO.bind ?_ (fun _ => ?_)
def zd0.f (k : Nat) (a0_0 : Bool) (l0_1 : List Int) (l0_2 : List Int) (a1_0 : Bool) (l1_1 : List Int) (l1_2 : List Int) : Option (Bool × List Int × List Int × Int) := (zbv.f k a0_0 l0_1 l0_2 a1_0 l1_1 l1_2).bind fun t4 => (if t4 = 0 then (if (l1_1.length : Int) = 0 then (some (false, ([] : List Int), ([] : List Int), 21)) else ((zas.f k (([l0_1, l1_2] : List (List Int)))).bind fun t8 => ((zas.f k (([l0_2, l1_1] : List (List Int)))).bind fun t14 => ((zaL.f k (a0_0 != a1_0) t8 t14).bind fun bt17 => (some (bt17.1, bt17.2.1, bt17.2.2.1, bt17.2.2.2)))))) else (some (false, ([] : List Int), ([] : List Int), t4)))
theorem zd0.mono : ∀ a0 a1 a2 a3 a4 a5 k, LeO (zd0.f k a0 a1 a2 a3 a4 a5) (zd0.f (k + 1) a0 a1 a2 a3 a4 a5) := by
 intro a0 a1 a2 a3 a4 a5 k
 unfold zd0.f
 repeat' first
   |(with_reducible exact zbv.mono _ _ _ _ _ _ _)
   |(with_reducible exact zas.mono _ _)
   |(with_reducible exact zaL.mono _ _ _ _)
   |(with_reducible exact LeO.refl _)
   |(with_reducible exact LeO.none _)
   |(with_reducible refine LeO.ite ?_ ?_)
   | (with_reducible refine LeO.bind ?_ (fun _ => ?_))
   |exact zbv.mono _ _ _ _ _ _ _
   |exact zas.mono _ _
   |exact zaL.mono _ _ _ _
   |exact LeO.none _
   |refine LeO.ite ?_ ?_
   | refine LeO.bind ?_ (fun _ => ?_)
def zd1.f (k : Nat) (a0_0 : Bool) (l0_1 : List Int) (l0_2 : List Int) (a1_0 : Bool) (l1_1 : List Int) (l1_2 : List Int) : Option (Bool × List Int × List Int × Int) := (zbv.f k a0_0 l0_1 l0_2 a1_0 l1_1 l1_2).bind fun t4 => (if t4 = 0 then ((zas.f k (([l0_1, l1_2] : List (List Int)))).bind fun t8 => ((zas.f k (([l1_1, l0_2] : List (List Int)))).bind fun t14 => ((zch.f k a0_0 t8 a1_0 t14).bind fun bt17 => ((zas.f k (([l0_2, l1_2] : List (List Int)))).bind fun t24 => ((zaL.f k bt17.1 bt17.2 t24).bind fun bt27 => (some (bt27.1, bt27.2.1, bt27.2.2.1, bt27.2.2.2))))))) else (some (false, ([] : List Int), ([] : List Int), t4)))
theorem zd1.mono : ∀ a0 a1 a2 a3 a4 a5 k, LeO (zd1.f k a0 a1 a2 a3 a4 a5) (zd1.f (k + 1) a0 a1 a2 a3 a4 a5) := by
 intro a0 a1 a2 a3 a4 a5 k
 unfold zd1.f
 repeat' first
   |(with_reducible exact zbv.mono _ _ _ _ _ _ _)
   |(with_reducible exact zas.mono _ _)
   |(with_reducible exact zaL.mono _ _ _ _)
   |(with_reducible exact zch.mono _ _ _ _ _)
   |(with_reducible exact LeO.refl _)
   |(with_reducible exact LeO.none _)
   |(with_reducible refine LeO.ite ?_ ?_)
   | (with_reducible refine LeO.bind ?_ (fun _ => ?_))
   |exact zbv.mono _ _ _ _ _ _ _
   |exact zas.mono _ _
   |exact zaL.mono _ _ _ _
   |exact zch.mono _ _ _ _ _
   |exact LeO.none _
   |refine LeO.ite ?_ ?_
   | refine LeO.bind ?_ (fun _ => ?_)
theorem zqo (k : Nat) (x : Bool) (A1 : Option Addr) (c1 : Nat) (l1 : List Int) (A2 : Option Addr) (c2 : Nat) (l2 : List Int) (y : Bool) (B1 : Option Addr) (d1 : Nat) (m1 : List Int) (B2 : Option Addr) (d2 : Nat) (m2 : List Int) (t : Int) (w : World) (V1 : zaa (Row w A1 c1 l1)) (V2 : zaa (Row w A2 c2 l2)) (V3 : zaa (Row w B1 d1 m1)) (V4 : zaa (Row w B2 d2 m2)) (h0 : zbv.f k x l1 l2 y m1 m2 = some t) (ht : t ≠ 0) : Calls Tryz.prog 102 #[.agg #[.bool x, .slice A1 l1.length c1, .slice A2 l2.length c2], .agg #[.bool y, .slice B1 m1.length d1, .slice B2 m2.length d2]] w (zdH w false [] [] t) := by
 have E0 := zaa.mk h0
 have hc1 : (t != 0) = true := bne_iff_ne.2 ht
 have hc2 : (t == 0) = false := beq_eq_false_iff_ne.2 ht
 clear h0 ht
 have HB0 := zaa.mk (Below.refl w.heap.size w)
 go_enter Tryz.func102, Tryz.ntmps102
 go_wp2_with (first
  | ((with_reducible refine zaA (N := 2) rfl ?_); refine zaN ?hg (N := 2) ?hd (cs := #[.bool x, .slice A1 l1.length c1, .slice A2 l2.length c2]) (t := 41) ?hr ?_; (case hd => rfl); (case hg => rfl); (case hr => first | (go_simp; done) | (go_simp; rfl)); intro g1 hg1 w1 hbox hb; have K1 := zaa.mk hbox; have L1 := zaa.mk (show w.heap.size ≤ g1 by rw [hg1]; exact zad HB0.out); have HB := zaa.mk (zab HB0.out hb); clear hg1 hbox hb)
  | ((with_reducible refine zaA (N := 3) rfl ?_); refine zaN ?hg (N := 3) ?hd (cs := #[.bool y, .slice B1 m1.length d1, .slice B2 m2.length d2]) (t := 41) ?hr ?_; (case hd => rfl); (case hg => rfl); (case hr => first | (go_simp; done) | (go_simp; rfl)); intro g2 hg2 w2 hbox hb; have K1 := zaa.mk (zak K1.out hb); have K2 := zaa.mk hbox; have L2 := zaa.mk (show w.heap.size ≤ g2 by rw [hg2]; exact zad HB.out); have HB := zaa.mk (zab HB.out hb); clear hg2 hbox hb)
  | ((with_reducible refine zaA (N := 4) rfl ?_); refine zaN ?hg (N := 4) ?hd (cs := #[.bool false, .slice none 0 0, .slice none 0 0]) (t := 41) ?hr ?_; (case hd => rfl); (case hg => rfl); (case hr => first | (go_simp; done) | (go_simp; rfl)); intro g3 hg3 w3 hbox hb; have N1 := zaa.mk (show g1 ≠ g3 by rw [hg3]; exact Nat.ne_of_lt (zbg K1.out)); have N2 := zaa.mk (show g2 ≠ g3 by rw [hg3]; exact Nat.ne_of_lt (zbg K2.out)); have K1 := zaa.mk (zak K1.out hb); have K2 := zaa.mk (zak K2.out hb); have K3 := zaa.mk hbox; have L3 := zaa.mk (show w.heap.size ≤ g3 by rw [hg3]; exact zad HB.out); have HB := zaa.mk (zab HB.out hb); clear hg3 hbox hb; obtain ⟨h10, h11, h12⟩ := cells3 K1.out; obtain ⟨h20, h21, h22⟩ := cells3 K2.out)
  | (go_at_call 143; (with_reducible refine (zbv.calls k x A1 c1 l1 A2 c2 l2 y B1 d1 m1 B2 d2 m2 t _ (Kd.zaq (V1.out.to HB.out)).2.2 (Kd.zaq (V1.out.to HB.out)).2.1 (Kd.zaq (V2.out.to HB.out)).2.2 (Kd.zaq (V2.out.to HB.out)).2.1 (Kd.zaq (V3.out.to HB.out)).2.2 (Kd.zaq (V3.out.to HB.out)).2.1 (Kd.zaq (V4.out.to HB.out)).2.2 (Kd.zaq (V4.out.to HB.out)).2.1 E0.out).mono ?_); rintro e w4 ⟨rfl, hb⟩; have F1 := zaa.mk (fun W (hW : Below w4.heap.size w4 W) => zak (zak K1.out hb) hW); have F2 := zaa.mk (fun W (hW : Below w4.heap.size w4 W) => zak (zak K2.out hb) hW); have F3 := zaa.mk (fun W (hW : Below w4.heap.size w4 W) => zak (zak K3.out hb) hW); have HB4 := zaa.mk (zab HB.out hb); have HW := zaa.mk (Below.refl w4.heap.size w4); clear hb h10 h11 h12 h20 h21 h22 K1 K2 K3 HB; obtain ⟨h10, h11, h12⟩ := cells3 (F1.out _ HW.out); obtain ⟨h20, h21, h22⟩ := cells3 (F2.out _ HW.out); obtain ⟨h30, h31, h32⟩ := cells3 (F3.out _ HW.out); obtain ⟨f30, f31, f32⟩ := zeg (F3.out _ HW.out)))
 refine bodyPost_ret (zba rfl _ _ g3 41 #[.bool false, .slice none 0 0, .slice none 0 0] (0, 0) _ rfl (zpo (F3.out _ HW.out) (.bool false) (.slice none 0 0) (.slice none 0 0)) Tryz.underlying41 rfl (by kernel_rfl)) rfl ?_
 exact ⟨_, _, rfl, Kd.zcl _ _ _ _ _, Kd.zcl _ _ _ _ _, zjM (zab HB4.out HW.out) L3.out _ _ _⟩
theorem zpr (k : Nat) (x : Bool) (A1 : Option Addr) (c1 : Nat) (l1 : List Int) (A2 : Option Addr) (c2 : Nat) (l2 : List Int) (y : Bool) (B1 : Option Addr) (d1 : Nat) (m1 : List Int) (B2 : Option Addr) (d2 : Nat) (m2 : List Int) (t1 t2 : List Int) (r1 : Bool) (r2 r3 : List Int) (r4 : Int) (w : World) (V1 : zaa (Row w A1 c1 l1)) (V2 : zaa (Row w A2 c2 l2)) (V3 : zaa (Row w B1 d1 m1)) (V4 : zaa (Row w B2 d2 m2)) (h0 : zbv.f k x l1 l2 y m1 m2 = some 0) (h1 : zas.f k [l1, m1] = some t1) (h2 : zas.f k [l2, m2] = some t2) (h3 : zaL.f k (x != y) t1 t2 = some (r1, r2, r3, r4)) : Calls Tryz.prog 102 #[.agg #[.bool x, .slice A1 l1.length c1, .slice A2 l2.length c2], .agg #[.bool y, .slice B1 m1.length d1, .slice B2 m2.length d2]] w (zdH w r1 r2 r3 r4) := by
 have E0 := zaa.mk h0
 have E1 := zaa.mk h1
 have E2 := zaa.mk h2
 have ER := zaa.mk (show zaL.f k (!(x == y)) t1 t2 = some (r1, r2, r3, r4) from h3)
 clear h0 h1 h2 h3
 have HB0 := zaa.mk (Below.refl w.heap.size w)
 go_enter Tryz.func102, Tryz.ntmps102
 go_wp2_with (first
  | ((with_reducible refine zaA (N := 2) rfl ?_); refine zaN ?hg (N := 2) ?hd (cs := #[.bool x, .slice A1 l1.length c1, .slice A2 l2.length c2]) (t := 41) ?hr ?_; (case hd => rfl); (case hg => rfl); (case hr => first | (go_simp; done) | (go_simp; rfl)); intro g1 hg1 w1 hbox hb; have K1 := zaa.mk hbox; have L1 := zaa.mk (show w.heap.size ≤ g1 by rw [hg1]; exact zad HB0.out); have HB := zaa.mk (zab HB0.out hb); clear hg1 hbox hb)
  | ((with_reducible refine zaA (N := 3) rfl ?_); refine zaN ?hg (N := 3) ?hd (cs := #[.bool y, .slice B1 m1.length d1, .slice B2 m2.length d2]) (t := 41) ?hr ?_; (case hd => rfl); (case hg => rfl); (case hr => first | (go_simp; done) | (go_simp; rfl)); intro g2 hg2 w2 hbox hb; have K1 := zaa.mk (zak K1.out hb); have K2 := zaa.mk hbox; have L2 := zaa.mk (show w.heap.size ≤ g2 by rw [hg2]; exact zad HB.out); have HB := zaa.mk (zab HB.out hb); clear hg2 hbox hb)
  | ((with_reducible refine zaA (N := 4) rfl ?_); refine zaN ?hg (N := 4) ?hd (cs := #[.bool false, .slice none 0 0, .slice none 0 0]) (t := 41) ?hr ?_; (case hd => rfl); (case hg => rfl); (case hr => first | (go_simp; done) | (go_simp; rfl)); intro g3 hg3 w3 hbox hb; have N1 := zaa.mk (show g1 ≠ g3 by rw [hg3]; exact Nat.ne_of_lt (zbg K1.out)); have N2 := zaa.mk (show g2 ≠ g3 by rw [hg3]; exact Nat.ne_of_lt (zbg K2.out)); have K1 := zaa.mk (zak K1.out hb); have K2 := zaa.mk (zak K2.out hb); have K3 := zaa.mk hbox; have L3 := zaa.mk (show w.heap.size ≤ g3 by rw [hg3]; exact zad HB.out); have HB := zaa.mk (zab HB.out hb); clear hg3 hbox hb; obtain ⟨h10, h11, h12⟩ := cells3 K1.out; obtain ⟨h20, h21, h22⟩ := cells3 K2.out)
  | (go_at_call 143; (with_reducible refine (zbv.calls k x A1 c1 l1 A2 c2 l2 y B1 d1 m1 B2 d2 m2 0 _ (Kd.zaq (V1.out.to HB.out)).2.2 (Kd.zaq (V1.out.to HB.out)).2.1 (Kd.zaq (V2.out.to HB.out)).2.2 (Kd.zaq (V2.out.to HB.out)).2.1 (Kd.zaq (V3.out.to HB.out)).2.2 (Kd.zaq (V3.out.to HB.out)).2.1 (Kd.zaq (V4.out.to HB.out)).2.2 (Kd.zaq (V4.out.to HB.out)).2.1 E0.out).mono ?_); rintro e w4 ⟨rfl, hb⟩; have F1 := zaa.mk (fun W (hW : Below w4.heap.size w4 W) => zak (zak K1.out hb) hW); have F2 := zaa.mk (fun W (hW : Below w4.heap.size w4 W) => zak (zak K2.out hb) hW); have F3 := zaa.mk (fun W (hW : Below w4.heap.size w4 W) => zak (zak K3.out hb) hW); have HB4 := zaa.mk (zab HB.out hb); have HW := zaa.mk (Below.refl w4.heap.size w4); clear hb h10 h11 h12 h20 h21 h22 K1 K2 K3 HB; obtain ⟨h10, h11, h12⟩ := cells3 (F1.out _ HW.out); obtain ⟨h20, h21, h22⟩ := cells3 (F2.out _ HW.out); obtain ⟨h30, h31, h32⟩ := cells3 (F3.out _ HW.out); obtain ⟨f30, f31, f32⟩ := zeg (F3.out _ HW.out)))
 go_region_held3 (fun w' => w'.cell? ⟨g1, 0, none⟩ = some (.bool x) ∧ w'.cell? ⟨g1, 1, none⟩ = some (.slice A1 l1.length c1) ∧ w'.cell? ⟨g1, 2, none⟩ = some (.slice A2 l2.length c2) ∧ w'.cell? ⟨g2, 0, none⟩ = some (.bool y) ∧ w'.cell? ⟨g2, 1, none⟩ = some (.slice B1 m1.length d1) ∧ w'.cell? ⟨g2, 2, none⟩ = some (.slice B2 m2.length d2)) (first | (with_reducible refine zjL (F1.out _ ?_) (F2.out _ ?_) N1.out N2.out _ _ _ <;> (repeat (with_reducible first | exact HW.out | apply zam | apply zao | apply zav)); done) | (with_reducible refine six (F1.out _ ?_) (F2.out _ ?_) <;> (repeat (with_reducible first | exact HW.out | apply zam | apply zao | apply zav)); done)) (first
  | (go_simp; go_at_call 144; (fail_if_success (have hx_ := P1)); (with_reducible refine (zdZ k t1 _ (ty := 39) E1.out (V1.out.to (zab HB4.out (by repeat (with_reducible first | exact HW.out | apply zam | apply zao | apply zav)))) (V3.out.to (zab HB4.out (by repeat (with_reducible first | exact HW.out | apply zam | apply zao | apply zav)))) ?blk).mono ?_); (case blk => repeat (with_reducible first | exact zcv _ _ | (refine zdY _ _ ?_; simp; done) | refine zar ?_ | refine zap ?_ _ | refine zai ?_ _ | refine HS.out _ _ ?_)); rintro e wp1 ⟨vp1, rfl, ho, hb⟩; dsimp only; (try clear HS); have HS := zaa.mk (fun g o hg => zak (g := g) (o := o) hg hb); have hw_ := zab (by repeat (with_reducible first | exact HW.out | apply zam | apply zao | apply zav)) hb; (try have P1_ := zaa.mk (Kd.zaW (by (with_reducible repeat (first | apply Kd.zaZ | apply Kd.zbr | apply Kd.zbI)); exact P1.out) hb)); (try clear P1); (try have P1 := P1_); (try clear P1_); (try have P2_ := zaa.mk (Kd.zaW (by (with_reducible repeat (first | apply Kd.zaZ | apply Kd.zbr | apply Kd.zbI)); exact P2.out) hb)); (try clear P2); (try have P2 := P2_); (try clear P2_); clear HW h10 h11 h12 h20 h21 h22 h30 h31 h32 f30 f31 f32; have HW := zaa.mk hw_; clear hw_; obtain ⟨h10, h11, h12⟩ := cells3 (F1.out _ HW.out); obtain ⟨h20, h21, h22⟩ := cells3 (F2.out _ HW.out); obtain ⟨h30, h31, h32⟩ := cells3 (F3.out _ HW.out); obtain ⟨f30, f31, f32⟩ := zeg (F3.out _ HW.out); have P1 := zaa.mk ho; obtain ⟨J1, j1, e1⟩ := Kd.zbe P1.out; subst e1; clear ho hb)
  | (go_simp; go_at_call 144; (with_reducible refine (zdZ k t2 _ (ty := 39) E2.out (V2.out.to (zab HB4.out (by repeat (with_reducible first | exact HW.out | apply zam | apply zao | apply zav)))) (V4.out.to (zab HB4.out (by repeat (with_reducible first | exact HW.out | apply zam | apply zao | apply zav)))) ?blk).mono ?_); (case blk => repeat (with_reducible first | exact zcv _ _ | (refine zdY _ _ ?_; simp; done) | refine zar ?_ | refine zap ?_ _ | refine zai ?_ _ | refine HS.out _ _ ?_)); rintro e wp2 ⟨vp2, rfl, ho, hb⟩; dsimp only; (try clear HS); have HS := zaa.mk (fun g o hg => zak (g := g) (o := o) hg hb); have hw_ := zab (by repeat (with_reducible first | exact HW.out | apply zam | apply zao | apply zav)) hb; (try have P1_ := zaa.mk (Kd.zaW (by (with_reducible repeat (first | apply Kd.zaZ | apply Kd.zbr | apply Kd.zbI)); exact P1.out) hb)); (try clear P1); (try have P1 := P1_); (try clear P1_); (try have P2_ := zaa.mk (Kd.zaW (by (with_reducible repeat (first | apply Kd.zaZ | apply Kd.zbr | apply Kd.zbI)); exact P2.out) hb)); (try clear P2); (try have P2 := P2_); (try clear P2_); clear HW h10 h11 h12 h20 h21 h22 h30 h31 h32 f30 f31 f32; have HW := zaa.mk hw_; clear hw_; obtain ⟨h10, h11, h12⟩ := cells3 (F1.out _ HW.out); obtain ⟨h20, h21, h22⟩ := cells3 (F2.out _ HW.out); obtain ⟨h30, h31, h32⟩ := cells3 (F3.out _ HW.out); obtain ⟨f30, f31, f32⟩ := zeg (F3.out _ HW.out); have P2 := zaa.mk ho; obtain ⟨J2, j2, e2⟩ := Kd.zbe P2.out; subst e2; clear ho hb)
  | (go_simp; go_at_call 139; (with_reducible refine (zaL.calls k (!(x == y)) J1 j1 t1 J2 j2 t2 r1 r2 r3 r4 _ ?s1 (Kd.zaq P1.out).2.1 ?s2 (Kd.zaq P2.out).2.1 ER.out).mono ?_); (case s1 => (with_reducible repeat (first | refine Kd.zdF ?_ _ | refine Kd.zdq ?_ _ | refine Kd.zeG ?_)); exact (Kd.zaq P1.out).2.2); (case s2 => (with_reducible repeat (first | refine Kd.zdF ?_ _ | refine Kd.zdq ?_ _ | refine Kd.zeG ?_)); exact (Kd.zaq P2.out).2.2); rintro e wr ⟨v1, v2, rfl, h1, h2, hb⟩; dsimp only; have G3 := zaa.mk (zpp hb (fun h => zbg (F3.out _ h)) (by repeat (with_reducible first | exact HW.out | apply zam | apply zao | apply zav))); have Z3 := zaa.mk (zpq hb (zab HB4.out (by repeat (with_reducible first | exact HW.out | apply zam | apply zao | apply zav)))); have hw_ := zab (by repeat (with_reducible first | exact HW.out | apply zam | apply zao | apply zav)) hb; clear HW h10 h11 h12 h20 h21 h22 h30 h31 h32 f30 f31 f32; have HW := zaa.mk hw_; clear hw_; obtain ⟨h10, h11, h12⟩ := cells3 (F1.out _ HW.out); obtain ⟨h20, h21, h22⟩ := cells3 (F2.out _ HW.out); obtain ⟨h30, h31, h32⟩ := cells3 (F3.out _ HW.out); obtain ⟨f30, f31, f32⟩ := zeg (F3.out _ HW.out); have R1 := zaa.mk h1; have R2 := zaa.mk h2; obtain ⟨Q1, q01, e1⟩ := Kd.zaC R1.out; subst e1; obtain ⟨Q2, q02, e2⟩ := Kd.zaC R2.out; subst e2; clear h1 h2 hb))
 all_goals go_wp2
 all_goals refine bodyPost_ret (zba rfl _ _ g3 41 #[.bool r1, .slice Q1 r2.length q01, .slice Q2 r3.length q02] (0, 0) _ rfl (zpo (F3.out _ HW.out) _ _ _) Tryz.underlying41 rfl (by kernel_rfl)) rfl ?_
 all_goals exact ⟨_, _, rfl, Kd.zaz (zlf R1.out G3.out _ _ _) Z3.out, Kd.zaz (zlf R2.out G3.out _ _ _) Z3.out, zjM (zab HB4.out HW.out) L3.out _ _ _⟩
theorem zqp (k : Nat) (x : Bool) (A1 : Option Addr) (c1 : Nat) (l1 : List Int) (A2 : Option Addr) (c2 : Nat) (l2 : List Int) (y : Bool) (B1 : Option Addr) (d1 : Nat) (m1 : List Int) (B2 : Option Addr) (d2 : Nat) (m2 : List Int) (t : Int) (w : World) (V1 : zaa (Row w A1 c1 l1)) (V2 : zaa (Row w A2 c2 l2)) (V3 : zaa (Row w B1 d1 m1)) (V4 : zaa (Row w B2 d2 m2)) (h0 : zbv.f k x l1 l2 y m1 m2 = some t) (ht : t ≠ 0) : Calls Tryz.prog 141 #[.agg #[.bool x, .slice A1 l1.length c1, .slice A2 l2.length c2], .agg #[.bool y, .slice B1 m1.length d1, .slice B2 m2.length d2]] w (zdH w false [] [] t) := by
 have E0 := zaa.mk h0
 have hc1 : (t != 0) = true := bne_iff_ne.2 ht
 have hc2 : (t == 0) = false := beq_eq_false_iff_ne.2 ht
 clear h0 ht
 have HB0 := zaa.mk (Below.refl w.heap.size w)
 go_enter Tryz.func141, Tryz.ntmps141
 go_wp2_with (first
  | ((with_reducible refine zaA (N := 2) rfl ?_); refine zaN ?hg (N := 2) ?hd (cs := #[.bool x, .slice A1 l1.length c1, .slice A2 l2.length c2]) (t := 41) ?hr ?_; (case hd => rfl); (case hg => rfl); (case hr => first | (go_simp; done) | (go_simp; rfl)); intro g1 hg1 w1 hbox hb; have K1 := zaa.mk hbox; have L1 := zaa.mk (show w.heap.size ≤ g1 by rw [hg1]; exact zad HB0.out); have HB := zaa.mk (zab HB0.out hb); clear hg1 hbox hb)
  | ((with_reducible refine zaA (N := 3) rfl ?_); refine zaN ?hg (N := 3) ?hd (cs := #[.bool y, .slice B1 m1.length d1, .slice B2 m2.length d2]) (t := 41) ?hr ?_; (case hd => rfl); (case hg => rfl); (case hr => first | (go_simp; done) | (go_simp; rfl)); intro g2 hg2 w2 hbox hb; have K1 := zaa.mk (zak K1.out hb); have K2 := zaa.mk hbox; have L2 := zaa.mk (show w.heap.size ≤ g2 by rw [hg2]; exact zad HB.out); have HB := zaa.mk (zab HB.out hb); clear hg2 hbox hb)
  | ((with_reducible refine zaA (N := 4) rfl ?_); refine zaN ?hg (N := 4) ?hd (cs := #[.bool false, .slice none 0 0, .slice none 0 0]) (t := 41) ?hr ?_; (case hd => rfl); (case hg => rfl); (case hr => first | (go_simp; done) | (go_simp; rfl)); intro g3 hg3 w3 hbox hb; have N1 := zaa.mk (show g1 ≠ g3 by rw [hg3]; exact Nat.ne_of_lt (zbg K1.out)); have N2 := zaa.mk (show g2 ≠ g3 by rw [hg3]; exact Nat.ne_of_lt (zbg K2.out)); have K1 := zaa.mk (zak K1.out hb); have K2 := zaa.mk (zak K2.out hb); have K3 := zaa.mk hbox; have L3 := zaa.mk (show w.heap.size ≤ g3 by rw [hg3]; exact zad HB.out); have HB := zaa.mk (zab HB.out hb); clear hg3 hbox hb; obtain ⟨h10, h11, h12⟩ := cells3 K1.out; obtain ⟨h20, h21, h22⟩ := cells3 K2.out)
  | (go_at_call 143; (with_reducible refine (zbv.calls k x A1 c1 l1 A2 c2 l2 y B1 d1 m1 B2 d2 m2 t _ (Kd.zaq (V1.out.to HB.out)).2.2 (Kd.zaq (V1.out.to HB.out)).2.1 (Kd.zaq (V2.out.to HB.out)).2.2 (Kd.zaq (V2.out.to HB.out)).2.1 (Kd.zaq (V3.out.to HB.out)).2.2 (Kd.zaq (V3.out.to HB.out)).2.1 (Kd.zaq (V4.out.to HB.out)).2.2 (Kd.zaq (V4.out.to HB.out)).2.1 E0.out).mono ?_); rintro e w4 ⟨rfl, hb⟩; have F1 := zaa.mk (fun W (hW : Below w4.heap.size w4 W) => zak (zak K1.out hb) hW); have F2 := zaa.mk (fun W (hW : Below w4.heap.size w4 W) => zak (zak K2.out hb) hW); have F3 := zaa.mk (fun W (hW : Below w4.heap.size w4 W) => zak (zak K3.out hb) hW); have HB4 := zaa.mk (zab HB.out hb); have HW := zaa.mk (Below.refl w4.heap.size w4); clear hb h10 h11 h12 h20 h21 h22 K1 K2 K3 HB; obtain ⟨h10, h11, h12⟩ := cells3 (F1.out _ HW.out); obtain ⟨h20, h21, h22⟩ := cells3 (F2.out _ HW.out); obtain ⟨h30, h31, h32⟩ := cells3 (F3.out _ HW.out); obtain ⟨f30, f31, f32⟩ := zeg (F3.out _ HW.out)))
 refine bodyPost_ret (zba rfl _ _ g3 41 #[.bool false, .slice none 0 0, .slice none 0 0] (0, 0) _ rfl (zpo (F3.out _ HW.out) (.bool false) (.slice none 0 0) (.slice none 0 0)) Tryz.underlying41 rfl (by kernel_rfl)) rfl ?_
 exact ⟨_, _, rfl, Kd.zcl _ _ _ _ _, Kd.zcl _ _ _ _ _, zjM (zab HB4.out HW.out) L3.out _ _ _⟩
theorem znL (k : Nat) (x : Bool) (A1 : Option Addr) (c1 : Nat) (l1 : List Int) (A2 : Option Addr) (c2 : Nat) (l2 : List Int) (y : Bool) (B1 : Option Addr) (d1 : Nat) (m1 : List Int) (B2 : Option Addr) (d2 : Nat) (m2 : List Int) (w : World) (V1 : zaa (Row w A1 c1 l1)) (V2 : zaa (Row w A2 c2 l2)) (V3 : zaa (Row w B1 d1 m1)) (V4 : zaa (Row w B2 d2 m2)) (h0 : zbv.f k x l1 l2 y m1 m2 = some 0) (hz : (m1.length : Int) = 0) : Calls Tryz.prog 141 #[.agg #[.bool x, .slice A1 l1.length c1, .slice A2 l2.length c2], .agg #[.bool y, .slice B1 m1.length d1, .slice B2 m2.length d2]] w (zdH w false [] [] 21) := by
 have E0 := zaa.mk h0
 have hz1 : ((m1.length : Int) == 0) = true := beq_iff_eq.2 hz
 have hz2 : decide ((m1.length : Int) = 0) = true := decide_eq_true hz
 clear h0 hz
 have HB0 := zaa.mk (Below.refl w.heap.size w)
 go_enter Tryz.func141, Tryz.ntmps141
 go_wp2_with (first
  | ((with_reducible refine zaA (N := 2) rfl ?_); refine zaN ?hg (N := 2) ?hd (cs := #[.bool x, .slice A1 l1.length c1, .slice A2 l2.length c2]) (t := 41) ?hr ?_; (case hd => rfl); (case hg => rfl); (case hr => first | (go_simp; done) | (go_simp; rfl)); intro g1 hg1 w1 hbox hb; have K1 := zaa.mk hbox; have L1 := zaa.mk (show w.heap.size ≤ g1 by rw [hg1]; exact zad HB0.out); have HB := zaa.mk (zab HB0.out hb); clear hg1 hbox hb)
  | ((with_reducible refine zaA (N := 3) rfl ?_); refine zaN ?hg (N := 3) ?hd (cs := #[.bool y, .slice B1 m1.length d1, .slice B2 m2.length d2]) (t := 41) ?hr ?_; (case hd => rfl); (case hg => rfl); (case hr => first | (go_simp; done) | (go_simp; rfl)); intro g2 hg2 w2 hbox hb; have K1 := zaa.mk (zak K1.out hb); have K2 := zaa.mk hbox; have L2 := zaa.mk (show w.heap.size ≤ g2 by rw [hg2]; exact zad HB.out); have HB := zaa.mk (zab HB.out hb); clear hg2 hbox hb)
  | ((with_reducible refine zaA (N := 4) rfl ?_); refine zaN ?hg (N := 4) ?hd (cs := #[.bool false, .slice none 0 0, .slice none 0 0]) (t := 41) ?hr ?_; (case hd => rfl); (case hg => rfl); (case hr => first | (go_simp; done) | (go_simp; rfl)); intro g3 hg3 w3 hbox hb; have N1 := zaa.mk (show g1 ≠ g3 by rw [hg3]; exact Nat.ne_of_lt (zbg K1.out)); have N2 := zaa.mk (show g2 ≠ g3 by rw [hg3]; exact Nat.ne_of_lt (zbg K2.out)); have K1 := zaa.mk (zak K1.out hb); have K2 := zaa.mk (zak K2.out hb); have K3 := zaa.mk hbox; have L3 := zaa.mk (show w.heap.size ≤ g3 by rw [hg3]; exact zad HB.out); have HB := zaa.mk (zab HB.out hb); clear hg3 hbox hb; obtain ⟨h10, h11, h12⟩ := cells3 K1.out; obtain ⟨h20, h21, h22⟩ := cells3 K2.out)
  | (go_at_call 143; (with_reducible refine (zbv.calls k x A1 c1 l1 A2 c2 l2 y B1 d1 m1 B2 d2 m2 0 _ (Kd.zaq (V1.out.to HB.out)).2.2 (Kd.zaq (V1.out.to HB.out)).2.1 (Kd.zaq (V2.out.to HB.out)).2.2 (Kd.zaq (V2.out.to HB.out)).2.1 (Kd.zaq (V3.out.to HB.out)).2.2 (Kd.zaq (V3.out.to HB.out)).2.1 (Kd.zaq (V4.out.to HB.out)).2.2 (Kd.zaq (V4.out.to HB.out)).2.1 E0.out).mono ?_); rintro e w4 ⟨rfl, hb⟩; have F1 := zaa.mk (fun W (hW : Below w4.heap.size w4 W) => zak (zak K1.out hb) hW); have F2 := zaa.mk (fun W (hW : Below w4.heap.size w4 W) => zak (zak K2.out hb) hW); have F3 := zaa.mk (fun W (hW : Below w4.heap.size w4 W) => zak (zak K3.out hb) hW); have HB4 := zaa.mk (zab HB.out hb); have HW := zaa.mk (Below.refl w4.heap.size w4); clear hb h10 h11 h12 h20 h21 h22 K1 K2 K3 HB; obtain ⟨h10, h11, h12⟩ := cells3 (F1.out _ HW.out); obtain ⟨h20, h21, h22⟩ := cells3 (F2.out _ HW.out); obtain ⟨h30, h31, h32⟩ := cells3 (F3.out _ HW.out); obtain ⟨f30, f31, f32⟩ := zeg (F3.out _ HW.out)))
 refine bodyPost_ret (zba rfl _ _ g3 41 #[.bool false, .slice none 0 0, .slice none 0 0] (0, 0) _ rfl (zpo (F3.out _ HW.out) (.bool false) (.slice none 0 0) (.slice none 0 0)) Tryz.underlying41 rfl (by kernel_rfl)) rfl ?_
 exact ⟨_, _, rfl, Kd.zcl _ _ _ _ _, Kd.zcl _ _ _ _ _, zjM (zab HB4.out HW.out) L3.out _ _ _⟩
theorem zps (k : Nat) (x : Bool) (A1 : Option Addr) (c1 : Nat) (l1 : List Int) (A2 : Option Addr) (c2 : Nat) (l2 : List Int) (y : Bool) (B1 : Option Addr) (d1 : Nat) (m1 : List Int) (B2 : Option Addr) (d2 : Nat) (m2 : List Int) (t1 t2 : List Int) (r1 : Bool) (r2 r3 : List Int) (r4 : Int) (w : World) (V1 : zaa (Row w A1 c1 l1)) (V2 : zaa (Row w A2 c2 l2)) (V3 : zaa (Row w B1 d1 m1)) (V4 : zaa (Row w B2 d2 m2)) (h0 : zbv.f k x l1 l2 y m1 m2 = some 0) (hz : ¬ (m1.length : Int) = 0) (h1 : zas.f k [l1, m2] = some t1) (h2 : zas.f k [l2, m1] = some t2) (h3 : zaL.f k (x != y) t1 t2 = some (r1, r2, r3, r4)) : Calls Tryz.prog 141 #[.agg #[.bool x, .slice A1 l1.length c1, .slice A2 l2.length c2], .agg #[.bool y, .slice B1 m1.length d1, .slice B2 m2.length d2]] w (zdH w r1 r2 r3 r4) := by
 have E0 := zaa.mk h0
 have hz1 : ((m1.length : Int) == 0) = false := beq_eq_false_iff_ne.2 hz
 have hz2 : decide ((m1.length : Int) = 0) = false := decide_eq_false hz
 have E1 := zaa.mk h1
 have E2 := zaa.mk h2
 have ER := zaa.mk (show zaL.f k (!(x == y)) t1 t2 = some (r1, r2, r3, r4) from h3)
 clear h0 h1 h2 h3 hz
 have HB0 := zaa.mk (Below.refl w.heap.size w)
 go_enter Tryz.func141, Tryz.ntmps141
 go_wp2_with (first
  | ((with_reducible refine zaA (N := 2) rfl ?_); refine zaN ?hg (N := 2) ?hd (cs := #[.bool x, .slice A1 l1.length c1, .slice A2 l2.length c2]) (t := 41) ?hr ?_; (case hd => rfl); (case hg => rfl); (case hr => first | (go_simp; done) | (go_simp; rfl)); intro g1 hg1 w1 hbox hb; have K1 := zaa.mk hbox; have L1 := zaa.mk (show w.heap.size ≤ g1 by rw [hg1]; exact zad HB0.out); have HB := zaa.mk (zab HB0.out hb); clear hg1 hbox hb)
  | ((with_reducible refine zaA (N := 3) rfl ?_); refine zaN ?hg (N := 3) ?hd (cs := #[.bool y, .slice B1 m1.length d1, .slice B2 m2.length d2]) (t := 41) ?hr ?_; (case hd => rfl); (case hg => rfl); (case hr => first | (go_simp; done) | (go_simp; rfl)); intro g2 hg2 w2 hbox hb; have K1 := zaa.mk (zak K1.out hb); have K2 := zaa.mk hbox; have L2 := zaa.mk (show w.heap.size ≤ g2 by rw [hg2]; exact zad HB.out); have HB := zaa.mk (zab HB.out hb); clear hg2 hbox hb)
  | ((with_reducible refine zaA (N := 4) rfl ?_); refine zaN ?hg (N := 4) ?hd (cs := #[.bool false, .slice none 0 0, .slice none 0 0]) (t := 41) ?hr ?_; (case hd => rfl); (case hg => rfl); (case hr => first | (go_simp; done) | (go_simp; rfl)); intro g3 hg3 w3 hbox hb; have N1 := zaa.mk (show g1 ≠ g3 by rw [hg3]; exact Nat.ne_of_lt (zbg K1.out)); have N2 := zaa.mk (show g2 ≠ g3 by rw [hg3]; exact Nat.ne_of_lt (zbg K2.out)); have K1 := zaa.mk (zak K1.out hb); have K2 := zaa.mk (zak K2.out hb); have K3 := zaa.mk hbox; have L3 := zaa.mk (show w.heap.size ≤ g3 by rw [hg3]; exact zad HB.out); have HB := zaa.mk (zab HB.out hb); clear hg3 hbox hb; obtain ⟨h10, h11, h12⟩ := cells3 K1.out; obtain ⟨h20, h21, h22⟩ := cells3 K2.out)
  | (go_at_call 143; (with_reducible refine (zbv.calls k x A1 c1 l1 A2 c2 l2 y B1 d1 m1 B2 d2 m2 0 _ (Kd.zaq (V1.out.to HB.out)).2.2 (Kd.zaq (V1.out.to HB.out)).2.1 (Kd.zaq (V2.out.to HB.out)).2.2 (Kd.zaq (V2.out.to HB.out)).2.1 (Kd.zaq (V3.out.to HB.out)).2.2 (Kd.zaq (V3.out.to HB.out)).2.1 (Kd.zaq (V4.out.to HB.out)).2.2 (Kd.zaq (V4.out.to HB.out)).2.1 E0.out).mono ?_); rintro e w4 ⟨rfl, hb⟩; have F1 := zaa.mk (fun W (hW : Below w4.heap.size w4 W) => zak (zak K1.out hb) hW); have F2 := zaa.mk (fun W (hW : Below w4.heap.size w4 W) => zak (zak K2.out hb) hW); have F3 := zaa.mk (fun W (hW : Below w4.heap.size w4 W) => zak (zak K3.out hb) hW); have HB4 := zaa.mk (zab HB.out hb); have HW := zaa.mk (Below.refl w4.heap.size w4); clear hb h10 h11 h12 h20 h21 h22 K1 K2 K3 HB; obtain ⟨h10, h11, h12⟩ := cells3 (F1.out _ HW.out); obtain ⟨h20, h21, h22⟩ := cells3 (F2.out _ HW.out); obtain ⟨h30, h31, h32⟩ := cells3 (F3.out _ HW.out); obtain ⟨f30, f31, f32⟩ := zeg (F3.out _ HW.out)))
 go_region_held3 (fun w' => w'.cell? ⟨g1, 0, none⟩ = some (.bool x) ∧ w'.cell? ⟨g1, 1, none⟩ = some (.slice A1 l1.length c1) ∧ w'.cell? ⟨g1, 2, none⟩ = some (.slice A2 l2.length c2) ∧ w'.cell? ⟨g2, 0, none⟩ = some (.bool y) ∧ w'.cell? ⟨g2, 1, none⟩ = some (.slice B1 m1.length d1) ∧ w'.cell? ⟨g2, 2, none⟩ = some (.slice B2 m2.length d2)) (first | (with_reducible refine zjL (F1.out _ ?_) (F2.out _ ?_) N1.out N2.out _ _ _ <;> (repeat (with_reducible first | exact HW.out | apply zam | apply zao | apply zav)); done) | (with_reducible refine six (F1.out _ ?_) (F2.out _ ?_) <;> (repeat (with_reducible first | exact HW.out | apply zam | apply zao | apply zav)); done)) (first
  | (go_simp; go_at_call 144; (fail_if_success (have hx_ := P1)); (with_reducible refine (zdZ k t1 _ (ty := 39) E1.out (V1.out.to (zab HB4.out (by repeat (with_reducible first | exact HW.out | apply zam | apply zao | apply zav)))) (V4.out.to (zab HB4.out (by repeat (with_reducible first | exact HW.out | apply zam | apply zao | apply zav)))) ?blk).mono ?_); (case blk => repeat (with_reducible first | exact zcv _ _ | (refine zdY _ _ ?_; simp; done) | refine zar ?_ | refine zap ?_ _ | refine zai ?_ _ | refine HS.out _ _ ?_)); rintro e wp1 ⟨vp1, rfl, ho, hb⟩; dsimp only; (try clear HS); have HS := zaa.mk (fun g o hg => zak (g := g) (o := o) hg hb); have hw_ := zab (by repeat (with_reducible first | exact HW.out | apply zam | apply zao | apply zav)) hb; (try have P1_ := zaa.mk (Kd.zaW (by (with_reducible repeat (first | apply Kd.zaZ | apply Kd.zbr | apply Kd.zbI)); exact P1.out) hb)); (try clear P1); (try have P1 := P1_); (try clear P1_); (try have P2_ := zaa.mk (Kd.zaW (by (with_reducible repeat (first | apply Kd.zaZ | apply Kd.zbr | apply Kd.zbI)); exact P2.out) hb)); (try clear P2); (try have P2 := P2_); (try clear P2_); clear HW h10 h11 h12 h20 h21 h22 h30 h31 h32 f30 f31 f32; have HW := zaa.mk hw_; clear hw_; obtain ⟨h10, h11, h12⟩ := cells3 (F1.out _ HW.out); obtain ⟨h20, h21, h22⟩ := cells3 (F2.out _ HW.out); obtain ⟨h30, h31, h32⟩ := cells3 (F3.out _ HW.out); obtain ⟨f30, f31, f32⟩ := zeg (F3.out _ HW.out); have P1 := zaa.mk ho; obtain ⟨J1, j1, e1⟩ := Kd.zbe P1.out; subst e1; clear ho hb)
  | (go_simp; go_at_call 144; (with_reducible refine (zdZ k t2 _ (ty := 39) E2.out (V2.out.to (zab HB4.out (by repeat (with_reducible first | exact HW.out | apply zam | apply zao | apply zav)))) (V3.out.to (zab HB4.out (by repeat (with_reducible first | exact HW.out | apply zam | apply zao | apply zav)))) ?blk).mono ?_); (case blk => repeat (with_reducible first | exact zcv _ _ | (refine zdY _ _ ?_; simp; done) | refine zar ?_ | refine zap ?_ _ | refine zai ?_ _ | refine HS.out _ _ ?_)); rintro e wp2 ⟨vp2, rfl, ho, hb⟩; dsimp only; (try clear HS); have HS := zaa.mk (fun g o hg => zak (g := g) (o := o) hg hb); have hw_ := zab (by repeat (with_reducible first | exact HW.out | apply zam | apply zao | apply zav)) hb; (try have P1_ := zaa.mk (Kd.zaW (by (with_reducible repeat (first | apply Kd.zaZ | apply Kd.zbr | apply Kd.zbI)); exact P1.out) hb)); (try clear P1); (try have P1 := P1_); (try clear P1_); (try have P2_ := zaa.mk (Kd.zaW (by (with_reducible repeat (first | apply Kd.zaZ | apply Kd.zbr | apply Kd.zbI)); exact P2.out) hb)); (try clear P2); (try have P2 := P2_); (try clear P2_); clear HW h10 h11 h12 h20 h21 h22 h30 h31 h32 f30 f31 f32; have HW := zaa.mk hw_; clear hw_; obtain ⟨h10, h11, h12⟩ := cells3 (F1.out _ HW.out); obtain ⟨h20, h21, h22⟩ := cells3 (F2.out _ HW.out); obtain ⟨h30, h31, h32⟩ := cells3 (F3.out _ HW.out); obtain ⟨f30, f31, f32⟩ := zeg (F3.out _ HW.out); have P2 := zaa.mk ho; obtain ⟨J2, j2, e2⟩ := Kd.zbe P2.out; subst e2; clear ho hb)
  | (go_simp; go_at_call 139; (with_reducible refine (zaL.calls k (!(x == y)) J1 j1 t1 J2 j2 t2 r1 r2 r3 r4 _ ?s1 (Kd.zaq P1.out).2.1 ?s2 (Kd.zaq P2.out).2.1 ER.out).mono ?_); (case s1 => (with_reducible repeat (first | refine Kd.zdF ?_ _ | refine Kd.zdq ?_ _ | refine Kd.zeG ?_)); exact (Kd.zaq P1.out).2.2); (case s2 => (with_reducible repeat (first | refine Kd.zdF ?_ _ | refine Kd.zdq ?_ _ | refine Kd.zeG ?_)); exact (Kd.zaq P2.out).2.2); rintro e wr ⟨v1, v2, rfl, h1, h2, hb⟩; dsimp only; have G3 := zaa.mk (zpp hb (fun h => zbg (F3.out _ h)) (by repeat (with_reducible first | exact HW.out | apply zam | apply zao | apply zav))); have Z3 := zaa.mk (zpq hb (zab HB4.out (by repeat (with_reducible first | exact HW.out | apply zam | apply zao | apply zav)))); have hw_ := zab (by repeat (with_reducible first | exact HW.out | apply zam | apply zao | apply zav)) hb; clear HW h10 h11 h12 h20 h21 h22 h30 h31 h32 f30 f31 f32; have HW := zaa.mk hw_; clear hw_; obtain ⟨h10, h11, h12⟩ := cells3 (F1.out _ HW.out); obtain ⟨h20, h21, h22⟩ := cells3 (F2.out _ HW.out); obtain ⟨h30, h31, h32⟩ := cells3 (F3.out _ HW.out); obtain ⟨f30, f31, f32⟩ := zeg (F3.out _ HW.out); have R1 := zaa.mk h1; have R2 := zaa.mk h2; obtain ⟨Q1, q01, e1⟩ := Kd.zaC R1.out; subst e1; obtain ⟨Q2, q02, e2⟩ := Kd.zaC R2.out; subst e2; clear h1 h2 hb))
 all_goals go_wp2
 all_goals refine bodyPost_ret (zba rfl _ _ g3 41 #[.bool r1, .slice Q1 r2.length q01, .slice Q2 r3.length q02] (0, 0) _ rfl (zpo (F3.out _ HW.out) _ _ _) Tryz.underlying41 rfl (by kernel_rfl)) rfl ?_
 all_goals exact ⟨_, _, rfl, Kd.zaz (zlf R1.out G3.out _ _ _) Z3.out, Kd.zaz (zlf R2.out G3.out _ _ _) Z3.out, zjM (zab HB4.out HW.out) L3.out _ _ _⟩
theorem zqq (k : Nat) (x : Bool) (A1 : Option Addr) (c1 : Nat) (l1 : List Int) (A2 : Option Addr) (c2 : Nat) (l2 : List Int) (y : Bool) (B1 : Option Addr) (d1 : Nat) (m1 : List Int) (B2 : Option Addr) (d2 : Nat) (m2 : List Int) (t : Int) (w : World) (V1 : zaa (Row w A1 c1 l1)) (V2 : zaa (Row w A2 c2 l2)) (V3 : zaa (Row w B1 d1 m1)) (V4 : zaa (Row w B2 d2 m2)) (h0 : zbv.f k x l1 l2 y m1 m2 = some t) (ht : t ≠ 0) : Calls Tryz.prog 142 #[.agg #[.bool x, .slice A1 l1.length c1, .slice A2 l2.length c2], .agg #[.bool y, .slice B1 m1.length d1, .slice B2 m2.length d2]] w (zdH w false [] [] t) := by
 have E0 := zaa.mk h0
 have hc1 : (t != 0) = true := bne_iff_ne.2 ht
 have hc2 : (t == 0) = false := beq_eq_false_iff_ne.2 ht
 clear h0 ht
 have HB0 := zaa.mk (Below.refl w.heap.size w)
 go_enter Tryz.func142, Tryz.ntmps142
 go_wp2_with (first
  | ((with_reducible refine zaA (N := 2) rfl ?_); refine zaN ?hg (N := 2) ?hd (cs := #[.bool x, .slice A1 l1.length c1, .slice A2 l2.length c2]) (t := 41) ?hr ?_; (case hd => rfl); (case hg => rfl); (case hr => first | (go_simp; done) | (go_simp; rfl)); intro g1 hg1 w1 hbox hb; have K1 := zaa.mk hbox; have L1 := zaa.mk (show w.heap.size ≤ g1 by rw [hg1]; exact zad HB0.out); have HB := zaa.mk (zab HB0.out hb); clear hg1 hbox hb)
  | ((with_reducible refine zaA (N := 3) rfl ?_); refine zaN ?hg (N := 3) ?hd (cs := #[.bool y, .slice B1 m1.length d1, .slice B2 m2.length d2]) (t := 41) ?hr ?_; (case hd => rfl); (case hg => rfl); (case hr => first | (go_simp; done) | (go_simp; rfl)); intro g2 hg2 w2 hbox hb; have K1 := zaa.mk (zak K1.out hb); have K2 := zaa.mk hbox; have L2 := zaa.mk (show w.heap.size ≤ g2 by rw [hg2]; exact zad HB.out); have HB := zaa.mk (zab HB.out hb); clear hg2 hbox hb)
  | ((with_reducible refine zaA (N := 4) rfl ?_); refine zaN ?hg (N := 4) ?hd (cs := #[.bool false, .slice none 0 0, .slice none 0 0]) (t := 41) ?hr ?_; (case hd => rfl); (case hg => rfl); (case hr => first | (go_simp; done) | (go_simp; rfl)); intro g3 hg3 w3 hbox hb; have N1 := zaa.mk (show g1 ≠ g3 by rw [hg3]; exact Nat.ne_of_lt (zbg K1.out)); have N2 := zaa.mk (show g2 ≠ g3 by rw [hg3]; exact Nat.ne_of_lt (zbg K2.out)); have K1 := zaa.mk (zak K1.out hb); have K2 := zaa.mk (zak K2.out hb); have K3 := zaa.mk hbox; have L3 := zaa.mk (show w.heap.size ≤ g3 by rw [hg3]; exact zad HB.out); have HB := zaa.mk (zab HB.out hb); clear hg3 hbox hb; obtain ⟨h10, h11, h12⟩ := cells3 K1.out; obtain ⟨h20, h21, h22⟩ := cells3 K2.out)
  | (go_at_call 143; (with_reducible refine (zbv.calls k x A1 c1 l1 A2 c2 l2 y B1 d1 m1 B2 d2 m2 t _ (Kd.zaq (V1.out.to HB.out)).2.2 (Kd.zaq (V1.out.to HB.out)).2.1 (Kd.zaq (V2.out.to HB.out)).2.2 (Kd.zaq (V2.out.to HB.out)).2.1 (Kd.zaq (V3.out.to HB.out)).2.2 (Kd.zaq (V3.out.to HB.out)).2.1 (Kd.zaq (V4.out.to HB.out)).2.2 (Kd.zaq (V4.out.to HB.out)).2.1 E0.out).mono ?_); rintro e w4 ⟨rfl, hb⟩; have F1 := zaa.mk (fun W (hW : Below w4.heap.size w4 W) => zak (zak K1.out hb) hW); have F2 := zaa.mk (fun W (hW : Below w4.heap.size w4 W) => zak (zak K2.out hb) hW); have F3 := zaa.mk (fun W (hW : Below w4.heap.size w4 W) => zak (zak K3.out hb) hW); have HB4 := zaa.mk (zab HB.out hb); have HW := zaa.mk (Below.refl w4.heap.size w4); clear hb h10 h11 h12 h20 h21 h22 K1 K2 K3 HB; obtain ⟨h10, h11, h12⟩ := cells3 (F1.out _ HW.out); obtain ⟨h20, h21, h22⟩ := cells3 (F2.out _ HW.out); obtain ⟨h30, h31, h32⟩ := cells3 (F3.out _ HW.out); obtain ⟨f30, f31, f32⟩ := zeg (F3.out _ HW.out)))
 refine bodyPost_ret (zba rfl _ _ g3 41 #[.bool false, .slice none 0 0, .slice none 0 0] (0, 0) _ rfl (zpo (F3.out _ HW.out) (.bool false) (.slice none 0 0) (.slice none 0 0)) Tryz.underlying41 rfl (by kernel_rfl)) rfl ?_
 exact ⟨_, _, rfl, Kd.zcl _ _ _ _ _, Kd.zcl _ _ _ _ _, zjM (zab HB4.out HW.out) L3.out _ _ _⟩
theorem zpt (k : Nat) (x : Bool) (A1 : Option Addr) (c1 : Nat) (l1 : List Int) (A2 : Option Addr) (c2 : Nat) (l2 : List Int) (y : Bool) (B1 : Option Addr) (d1 : Nat) (m1 : List Int) (B2 : Option Addr) (d2 : Nat) (m2 : List Int) (t1 t2 t3 ts : List Int) (bs : Bool) (r1 : Bool) (r2 r3 : List Int) (r4 : Int) (w : World) (V1 : zaa (Row w A1 c1 l1)) (V2 : zaa (Row w A2 c2 l2)) (V3 : zaa (Row w B1 d1 m1)) (V4 : zaa (Row w B2 d2 m2)) (h0 : zbv.f k x l1 l2 y m1 m2 = some 0) (h1 : zas.f k [l1, m2] = some t1) (h2 : zas.f k [m1, l2] = some t2) (hs : zch.f k x t1 y t2 = some (bs, ts)) (hp : zas.f k [l2, m2] = some t3) (h3 : zaL.f k bs ts t3 = some (r1, r2, r3, r4)) : Calls Tryz.prog 142 #[.agg #[.bool x, .slice A1 l1.length c1, .slice A2 l2.length c2], .agg #[.bool y, .slice B1 m1.length d1, .slice B2 m2.length d2]] w (zdH w r1 r2 r3 r4) := by
 have E0 := zaa.mk h0
 have E1 := zaa.mk h1
 have E2 := zaa.mk h2
 have E3 := zaa.mk hp
 have ES := zaa.mk hs
 have ER := zaa.mk h3
 clear h0 h1 h2 h3 hs hp
 have HB0 := zaa.mk (Below.refl w.heap.size w)
 go_enter Tryz.func142, Tryz.ntmps142
 go_wp2_with (first
  | ((with_reducible refine zaA (N := 2) rfl ?_); refine zaN ?hg (N := 2) ?hd (cs := #[.bool x, .slice A1 l1.length c1, .slice A2 l2.length c2]) (t := 41) ?hr ?_; (case hd => rfl); (case hg => rfl); (case hr => first | (go_simp; done) | (go_simp; rfl)); intro g1 hg1 w1 hbox hb; have K1 := zaa.mk hbox; have L1 := zaa.mk (show w.heap.size ≤ g1 by rw [hg1]; exact zad HB0.out); have HB := zaa.mk (zab HB0.out hb); clear hg1 hbox hb)
  | ((with_reducible refine zaA (N := 3) rfl ?_); refine zaN ?hg (N := 3) ?hd (cs := #[.bool y, .slice B1 m1.length d1, .slice B2 m2.length d2]) (t := 41) ?hr ?_; (case hd => rfl); (case hg => rfl); (case hr => first | (go_simp; done) | (go_simp; rfl)); intro g2 hg2 w2 hbox hb; have K1 := zaa.mk (zak K1.out hb); have K2 := zaa.mk hbox; have L2 := zaa.mk (show w.heap.size ≤ g2 by rw [hg2]; exact zad HB.out); have HB := zaa.mk (zab HB.out hb); clear hg2 hbox hb)
  | ((with_reducible refine zaA (N := 4) rfl ?_); refine zaN ?hg (N := 4) ?hd (cs := #[.bool false, .slice none 0 0, .slice none 0 0]) (t := 41) ?hr ?_; (case hd => rfl); (case hg => rfl); (case hr => first | (go_simp; done) | (go_simp; rfl)); intro g3 hg3 w3 hbox hb; have N1 := zaa.mk (show g1 ≠ g3 by rw [hg3]; exact Nat.ne_of_lt (zbg K1.out)); have N2 := zaa.mk (show g2 ≠ g3 by rw [hg3]; exact Nat.ne_of_lt (zbg K2.out)); have K1 := zaa.mk (zak K1.out hb); have K2 := zaa.mk (zak K2.out hb); have K3 := zaa.mk hbox; have L3 := zaa.mk (show w.heap.size ≤ g3 by rw [hg3]; exact zad HB.out); have HB := zaa.mk (zab HB.out hb); clear hg3 hbox hb; obtain ⟨h10, h11, h12⟩ := cells3 K1.out; obtain ⟨h20, h21, h22⟩ := cells3 K2.out)
  | (go_at_call 143; (with_reducible refine (zbv.calls k x A1 c1 l1 A2 c2 l2 y B1 d1 m1 B2 d2 m2 0 _ (Kd.zaq (V1.out.to HB.out)).2.2 (Kd.zaq (V1.out.to HB.out)).2.1 (Kd.zaq (V2.out.to HB.out)).2.2 (Kd.zaq (V2.out.to HB.out)).2.1 (Kd.zaq (V3.out.to HB.out)).2.2 (Kd.zaq (V3.out.to HB.out)).2.1 (Kd.zaq (V4.out.to HB.out)).2.2 (Kd.zaq (V4.out.to HB.out)).2.1 E0.out).mono ?_); rintro e w4 ⟨rfl, hb⟩; have F1 := zaa.mk (fun W (hW : Below w4.heap.size w4 W) => zak (zak K1.out hb) hW); have F2 := zaa.mk (fun W (hW : Below w4.heap.size w4 W) => zak (zak K2.out hb) hW); have F3 := zaa.mk (fun W (hW : Below w4.heap.size w4 W) => zak (zak K3.out hb) hW); have HB4 := zaa.mk (zab HB.out hb); have HW := zaa.mk (Below.refl w4.heap.size w4); clear hb h10 h11 h12 h20 h21 h22 K1 K2 K3 HB; obtain ⟨h10, h11, h12⟩ := cells3 (F1.out _ HW.out); obtain ⟨h20, h21, h22⟩ := cells3 (F2.out _ HW.out); obtain ⟨h30, h31, h32⟩ := cells3 (F3.out _ HW.out); obtain ⟨f30, f31, f32⟩ := zeg (F3.out _ HW.out)))
 go_region_held3 (fun w' => w'.cell? ⟨g1, 0, none⟩ = some (.bool x) ∧ w'.cell? ⟨g1, 1, none⟩ = some (.slice A1 l1.length c1) ∧ w'.cell? ⟨g1, 2, none⟩ = some (.slice A2 l2.length c2) ∧ w'.cell? ⟨g2, 0, none⟩ = some (.bool y) ∧ w'.cell? ⟨g2, 1, none⟩ = some (.slice B1 m1.length d1) ∧ w'.cell? ⟨g2, 2, none⟩ = some (.slice B2 m2.length d2)) (first | (with_reducible refine zjL (F1.out _ ?_) (F2.out _ ?_) N1.out N2.out _ _ _ <;> (repeat (with_reducible first | exact HW.out | apply zam | apply zao | apply zav)); done) | (with_reducible refine six (F1.out _ ?_) (F2.out _ ?_) <;> (repeat (with_reducible first | exact HW.out | apply zam | apply zao | apply zav)); done)) (first
  | (go_simp; go_at_call 144; (fail_if_success (have hx_ := P1)); (with_reducible refine (zdZ k t1 _ (ty := 39) E1.out (V1.out.to (zab HB4.out (by repeat (with_reducible first | exact HW.out | apply zam | apply zao | apply zav)))) (V4.out.to (zab HB4.out (by repeat (with_reducible first | exact HW.out | apply zam | apply zao | apply zav)))) ?blk).mono ?_); (case blk => repeat (with_reducible first | exact zcv _ _ | (refine zdY _ _ ?_; simp; done) | refine zar ?_ | refine zap ?_ _ | refine zai ?_ _ | refine HS.out _ _ ?_)); rintro e wp1 ⟨vp1, rfl, ho, hb⟩; dsimp only; (try clear HS); have HS := zaa.mk (fun g o hg => zak (g := g) (o := o) hg hb); have hw_ := zab (by repeat (with_reducible first | exact HW.out | apply zam | apply zao | apply zav)) hb; (try have P1_ := zaa.mk (Kd.zaW (by (with_reducible repeat (first | apply Kd.zaZ | apply Kd.zbr | apply Kd.zbI)); exact P1.out) hb)); (try clear P1); (try have P1 := P1_); (try clear P1_); (try have P2_ := zaa.mk (Kd.zaW (by (with_reducible repeat (first | apply Kd.zaZ | apply Kd.zbr | apply Kd.zbI)); exact P2.out) hb)); (try clear P2); (try have P2 := P2_); (try clear P2_); clear HW h10 h11 h12 h20 h21 h22 h30 h31 h32 f30 f31 f32; have HW := zaa.mk hw_; clear hw_; obtain ⟨h10, h11, h12⟩ := cells3 (F1.out _ HW.out); obtain ⟨h20, h21, h22⟩ := cells3 (F2.out _ HW.out); obtain ⟨h30, h31, h32⟩ := cells3 (F3.out _ HW.out); obtain ⟨f30, f31, f32⟩ := zeg (F3.out _ HW.out); have P1 := zaa.mk ho; obtain ⟨J1, j1, e1⟩ := Kd.zbe P1.out; subst e1; clear ho hb)
  | (go_simp; go_at_call 144; (with_reducible refine (zdZ k t2 _ (ty := 39) E2.out (V3.out.to (zab HB4.out (by repeat (with_reducible first | exact HW.out | apply zam | apply zao | apply zav)))) (V2.out.to (zab HB4.out (by repeat (with_reducible first | exact HW.out | apply zam | apply zao | apply zav)))) ?blk).mono ?_); (case blk => repeat (with_reducible first | exact zcv _ _ | (refine zdY _ _ ?_; simp; done) | refine zar ?_ | refine zap ?_ _ | refine zai ?_ _ | refine HS.out _ _ ?_)); rintro e wp2 ⟨vp2, rfl, ho, hb⟩; dsimp only; (try clear HS); have HS := zaa.mk (fun g o hg => zak (g := g) (o := o) hg hb); have hw_ := zab (by repeat (with_reducible first | exact HW.out | apply zam | apply zao | apply zav)) hb; (try have P1_ := zaa.mk (Kd.zaW (by (with_reducible repeat (first | apply Kd.zaZ | apply Kd.zbr | apply Kd.zbI)); exact P1.out) hb)); (try clear P1); (try have P1 := P1_); (try clear P1_); (try have P2_ := zaa.mk (Kd.zaW (by (with_reducible repeat (first | apply Kd.zaZ | apply Kd.zbr | apply Kd.zbI)); exact P2.out) hb)); (try clear P2); (try have P2 := P2_); (try clear P2_); clear HW h10 h11 h12 h20 h21 h22 h30 h31 h32 f30 f31 f32; have HW := zaa.mk hw_; clear hw_; obtain ⟨h10, h11, h12⟩ := cells3 (F1.out _ HW.out); obtain ⟨h20, h21, h22⟩ := cells3 (F2.out _ HW.out); obtain ⟨h30, h31, h32⟩ := cells3 (F3.out _ HW.out); obtain ⟨f30, f31, f32⟩ := zeg (F3.out _ HW.out); have P2 := zaa.mk ho; obtain ⟨J2, j2, e2⟩ := Kd.zbe P2.out; subst e2; clear ho hb)
  | (go_simp; go_at_call 169; (with_reducible refine (zch.calls k x J1 j1 t1 y J2 j2 t2 bs ts _ ?s1 (Kd.zaq P1.out).2.1 ?s2 (Kd.zaq P2.out).2.1 ES.out).mono ?_); (case s1 => (with_reducible repeat (first | refine Kd.zdF ?_ _ | refine Kd.zdq ?_ _ | refine Kd.zeG ?_)); exact (Kd.zaq P1.out).2.2); (case s2 => (with_reducible repeat (first | refine Kd.zdF ?_ _ | refine Kd.zdq ?_ _ | refine Kd.zeG ?_)); exact (Kd.zaq P2.out).2.2); rintro e ws ⟨vs, rfl, ho, hb⟩; dsimp only; have hw_ := zab (by repeat (with_reducible first | exact HW.out | apply zam | apply zao | apply zav)) hb; clear HW h10 h11 h12 h20 h21 h22 h30 h31 h32 f30 f31 f32; have HW := zaa.mk hw_; clear hw_; obtain ⟨h10, h11, h12⟩ := cells3 (F1.out _ HW.out); obtain ⟨h20, h21, h22⟩ := cells3 (F2.out _ HW.out); obtain ⟨h30, h31, h32⟩ := cells3 (F3.out _ HW.out); obtain ⟨f30, f31, f32⟩ := zeg (F3.out _ HW.out); have PS := zaa.mk ho; obtain ⟨J0, j0, e0⟩ := Kd.zbe PS.out; subst e0; clear ho hb))
 all_goals go_wp2_with (first
  | (go_at_call 144; (with_reducible refine (zdZ k t3 _ (ty := 39) E3.out (V2.out.to (zab HB4.out (by repeat (with_reducible first | exact HW.out | apply zam | apply zao | apply zav)))) (V4.out.to (zab HB4.out (by repeat (with_reducible first | exact HW.out | apply zam | apply zao | apply zav)))) ?blk).mono ?_); (case blk => repeat (with_reducible first | exact zcv _ _ | (refine zdY _ _ ?_; simp; done) | refine zar ?_ | refine zap ?_ _ | refine zai ?_ _ | refine HS.out _ _ ?_)); rintro e wp3 ⟨vp3, rfl, ho, hb⟩; (try dsimp only); (try clear HS); have HS := zaa.mk (fun g o hg => zak (g := g) (o := o) hg hb); have hw_ := zab (by repeat (with_reducible first | exact HW.out | apply zam | apply zao | apply zav)) hb; (try have PS_ := zaa.mk (Kd.zaW (by (with_reducible repeat (first | apply Kd.zaZ | apply Kd.zbr | apply Kd.zbI)); exact PS.out) hb)); (try clear PS); (try have PS := PS_); (try clear PS_); clear HW h10 h11 h12 h20 h21 h22 h30 h31 h32 f30 f31 f32; have HW := zaa.mk hw_; clear hw_; obtain ⟨h10, h11, h12⟩ := cells3 (F1.out _ HW.out); obtain ⟨h20, h21, h22⟩ := cells3 (F2.out _ HW.out); obtain ⟨h30, h31, h32⟩ := cells3 (F3.out _ HW.out); obtain ⟨f30, f31, f32⟩ := zeg (F3.out _ HW.out); have P3 := zaa.mk ho; obtain ⟨J3, j3, e3⟩ := Kd.zbe P3.out; subst e3; clear ho hb)
  | (go_at_call 139; (with_reducible refine (zaL.calls k bs J0 j0 ts J3 j3 t3 r1 r2 r3 r4 _ ?s1 (Kd.zaq PS.out).2.1 ?s2 (Kd.zaq P3.out).2.1 ER.out).mono ?_); (case s1 => (with_reducible repeat (first | refine Kd.zdF ?_ _ | refine Kd.zdq ?_ _ | refine Kd.zeG ?_)); exact (Kd.zaq PS.out).2.2); (case s2 => (with_reducible repeat (first | refine Kd.zdF ?_ _ | refine Kd.zdq ?_ _ | refine Kd.zeG ?_)); exact (Kd.zaq P3.out).2.2); rintro e wr ⟨v1, v2, rfl, h1, h2, hb⟩; (try dsimp only); have G3 := zaa.mk (zpp hb (fun h => zbg (F3.out _ h)) (by repeat (with_reducible first | exact HW.out | apply zam | apply zao | apply zav))); have Z3 := zaa.mk (zpq hb (zab HB4.out (by repeat (with_reducible first | exact HW.out | apply zam | apply zao | apply zav)))); have hw_ := zab (by repeat (with_reducible first | exact HW.out | apply zam | apply zao | apply zav)) hb; clear HW h10 h11 h12 h20 h21 h22 h30 h31 h32 f30 f31 f32; have HW := zaa.mk hw_; clear hw_; obtain ⟨h10, h11, h12⟩ := cells3 (F1.out _ HW.out); obtain ⟨h20, h21, h22⟩ := cells3 (F2.out _ HW.out); obtain ⟨h30, h31, h32⟩ := cells3 (F3.out _ HW.out); obtain ⟨f30, f31, f32⟩ := zeg (F3.out _ HW.out); have R1 := zaa.mk h1; have R2 := zaa.mk h2; obtain ⟨Q1, q01, e1⟩ := Kd.zaC R1.out; subst e1; obtain ⟨Q2, q02, e2⟩ := Kd.zaC R2.out; subst e2; clear h1 h2 hb))
 all_goals refine bodyPost_ret (zba rfl _ _ g3 41 #[.bool r1, .slice Q1 r2.length q01, .slice Q2 r3.length q02] (0, 0) _ rfl (zpo (F3.out _ HW.out) _ _ _) Tryz.underlying41 rfl (by kernel_rfl)) rfl ?_
 all_goals exact ⟨_, _, rfl, Kd.zaz (zlf R1.out G3.out _ _ _) Z3.out, Kd.zaz (zlf R2.out G3.out _ _ _) Z3.out, zjM (zab HB4.out HW.out) L3.out _ _ _⟩
theorem zdI.calls (k : Nat) (x : Bool) (P0_1_ : Nat → Prop) (A1 : Option Addr) (c1 : Nat) (l1 : List Int) (P0_2_ : Nat → Prop) (A2 : Option Addr) (c2 : Nat) (l2 : List Int) (y : Bool) (P1_1_ : Nat → Prop) (B1 : Option Addr) (d1 : Nat) (m1 : List Int) (P1_2_ : Nat → Prop) (B2 : Option Addr) (d2 : Nat) (m2 : List Int) (r1 : Bool) (r2 r3 : List Int) (r4 : Int) (w : World) (v1 : Kd.V (Kd.int .u32) 109 w w.heap.size (fun k_ => P0_1_ k_) (.slice A1 l1.length c1) l1) (v2 : Kd.V (Kd.int .u32) 109 w w.heap.size (fun k_ => P0_2_ k_) (.slice A2 l2.length c2) l2) (v3 : Kd.V (Kd.int .u32) 109 w w.heap.size (fun k_ => P1_1_ k_) (.slice B1 m1.length d1) m1) (v4 : Kd.V (Kd.int .u32) 109 w w.heap.size (fun k_ => P1_2_ k_) (.slice B2 m2.length d2) m2) (h : zdI.f k x l1 l2 y m1 m2 = some (r1, r2, r3, r4)) : Calls Tryz.prog 102 #[.agg #[.bool x, .slice A1 l1.length c1, .slice A2 l2.length c2], .agg #[.bool y, .slice B1 m1.length d1, .slice B2 m2.length d2]] w (zdH w r1 r2 r3 r4) := by
 unfold zdI.f at h
 obtain ⟨t, h0, h⟩ := Option.bind_eq_some_iff.1 h
 by_cases ht : t = 0
 ·subst ht
  rw [if_pos rfl] at h
  obtain ⟨t1, h1, h⟩ := Option.bind_eq_some_iff.1 h
  obtain ⟨t2, h2, h⟩ := Option.bind_eq_some_iff.1 h
  obtain ⟨⟨q1, q2, q3, q4⟩, h3, h⟩ := Option.bind_eq_some_iff.1 h
  cases h
  exact zpr k x A1 c1 l1 A2 c2 l2 y B1 d1 m1 B2 d2 m2 t1 t2 _ _ _ _ w ⟨Row.mk v1⟩ ⟨Row.mk v2⟩ ⟨Row.mk v3⟩ ⟨Row.mk v4⟩ h0 h1 h2 h3
 ·rw [if_neg ht] at h
  cases h
  exact zqo k x A1 c1 l1 A2 c2 l2 y B1 d1 m1 B2 d2 m2 _ w ⟨Row.mk v1⟩ ⟨Row.mk v2⟩ ⟨Row.mk v3⟩ ⟨Row.mk v4⟩ h0 ht
theorem zd0.calls (k : Nat) (x : Bool) (P0_1_ : Nat → Prop) (A1 : Option Addr) (c1 : Nat) (l1 : List Int) (P0_2_ : Nat → Prop) (A2 : Option Addr) (c2 : Nat) (l2 : List Int) (y : Bool) (P1_1_ : Nat → Prop) (B1 : Option Addr) (d1 : Nat) (m1 : List Int) (P1_2_ : Nat → Prop) (B2 : Option Addr) (d2 : Nat) (m2 : List Int) (r1 : Bool) (r2 r3 : List Int) (r4 : Int) (w : World) (v1 : Kd.V (Kd.int .u32) 109 w w.heap.size (fun k_ => P0_1_ k_) (.slice A1 l1.length c1) l1) (v2 : Kd.V (Kd.int .u32) 109 w w.heap.size (fun k_ => P0_2_ k_) (.slice A2 l2.length c2) l2) (v3 : Kd.V (Kd.int .u32) 109 w w.heap.size (fun k_ => P1_1_ k_) (.slice B1 m1.length d1) m1) (v4 : Kd.V (Kd.int .u32) 109 w w.heap.size (fun k_ => P1_2_ k_) (.slice B2 m2.length d2) m2) (h : zd0.f k x l1 l2 y m1 m2 = some (r1, r2, r3, r4)) : Calls Tryz.prog 141 #[.agg #[.bool x, .slice A1 l1.length c1, .slice A2 l2.length c2], .agg #[.bool y, .slice B1 m1.length d1, .slice B2 m2.length d2]] w (zdH w r1 r2 r3 r4) := by
 unfold zd0.f at h
 obtain ⟨t, h0, h⟩ := Option.bind_eq_some_iff.1 h
 by_cases ht : t = 0
 ·subst ht
  rw [if_pos rfl] at h
  by_cases hz : (m1.length : Int) = 0
  ·rw [if_pos hz] at h
   cases h
   exact znL k x A1 c1 l1 A2 c2 l2 y B1 d1 m1 B2 d2 m2 w ⟨Row.mk v1⟩ ⟨Row.mk v2⟩ ⟨Row.mk v3⟩ ⟨Row.mk v4⟩ h0 hz
  ·rw [if_neg hz] at h
   obtain ⟨t1, h1, h⟩ := Option.bind_eq_some_iff.1 h
   obtain ⟨t2, h2, h⟩ := Option.bind_eq_some_iff.1 h
   obtain ⟨⟨q1, q2, q3, q4⟩, h3, h⟩ := Option.bind_eq_some_iff.1 h
   cases h
   exact zps k x A1 c1 l1 A2 c2 l2 y B1 d1 m1 B2 d2 m2 t1 t2 _ _ _ _ w ⟨Row.mk v1⟩ ⟨Row.mk v2⟩ ⟨Row.mk v3⟩ ⟨Row.mk v4⟩ h0 hz h1 h2 h3
 ·rw [if_neg ht] at h
  cases h
  exact zqp k x A1 c1 l1 A2 c2 l2 y B1 d1 m1 B2 d2 m2 _ w ⟨Row.mk v1⟩ ⟨Row.mk v2⟩ ⟨Row.mk v3⟩ ⟨Row.mk v4⟩ h0 ht
theorem zd1.calls (k : Nat) (x : Bool) (P0_1_ : Nat → Prop) (A1 : Option Addr) (c1 : Nat) (l1 : List Int) (P0_2_ : Nat → Prop) (A2 : Option Addr) (c2 : Nat) (l2 : List Int) (y : Bool) (P1_1_ : Nat → Prop) (B1 : Option Addr) (d1 : Nat) (m1 : List Int) (P1_2_ : Nat → Prop) (B2 : Option Addr) (d2 : Nat) (m2 : List Int) (r1 : Bool) (r2 r3 : List Int) (r4 : Int) (w : World) (v1 : Kd.V (Kd.int .u32) 109 w w.heap.size (fun k_ => P0_1_ k_) (.slice A1 l1.length c1) l1) (v2 : Kd.V (Kd.int .u32) 109 w w.heap.size (fun k_ => P0_2_ k_) (.slice A2 l2.length c2) l2) (v3 : Kd.V (Kd.int .u32) 109 w w.heap.size (fun k_ => P1_1_ k_) (.slice B1 m1.length d1) m1) (v4 : Kd.V (Kd.int .u32) 109 w w.heap.size (fun k_ => P1_2_ k_) (.slice B2 m2.length d2) m2) (h : zd1.f k x l1 l2 y m1 m2 = some (r1, r2, r3, r4)) : Calls Tryz.prog 142 #[.agg #[.bool x, .slice A1 l1.length c1, .slice A2 l2.length c2], .agg #[.bool y, .slice B1 m1.length d1, .slice B2 m2.length d2]] w (zdH w r1 r2 r3 r4) := by
 unfold zd1.f at h
 obtain ⟨t, h0, h⟩ := Option.bind_eq_some_iff.1 h
 by_cases ht : t = 0
 ·subst ht
  rw [if_pos rfl] at h
  obtain ⟨t1, h1, h⟩ := Option.bind_eq_some_iff.1 h
  obtain ⟨t2, h2, h⟩ := Option.bind_eq_some_iff.1 h
  obtain ⟨⟨b, s⟩, hs, h⟩ := Option.bind_eq_some_iff.1 h
  obtain ⟨t3, hp, h⟩ := Option.bind_eq_some_iff.1 h
  obtain ⟨⟨q1, q2, q3, q4⟩, h3, h⟩ := Option.bind_eq_some_iff.1 h
  cases h
  exact zpt k x A1 c1 l1 A2 c2 l2 y B1 d1 m1 B2 d2 m2 t1 t2 t3 s b _ _ _ _ w ⟨Row.mk v1⟩ ⟨Row.mk v2⟩ ⟨Row.mk v3⟩ ⟨Row.mk v4⟩ h0 h1 h2 hs hp h3
 ·rw [if_neg ht] at h
  cases h
  exact zqq k x A1 c1 l1 A2 c2 l2 y B1 d1 m1 B2 d2 m2 _ w ⟨Row.mk v1⟩ ⟨Row.mk v2⟩ ⟨Row.mk v3⟩ ⟨Row.mk v4⟩ h0 ht
end Go.Proofs.YtioofhilohmfbaaGreatDoor.P
end
