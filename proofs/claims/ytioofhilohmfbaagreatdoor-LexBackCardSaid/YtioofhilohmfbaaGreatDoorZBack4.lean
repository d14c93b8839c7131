/- Parts of the proof: the walks and laws that the last text of this claim rests on. No condition beyond each one's own. -/
import Derived.Test.YtioofhilohmfbaaGreatDoorZBack3
set_option linter.unusedVariables false
set_option linter.unusedSimpArgs false
set_option maxRecDepth 100000
set_option maxHeartbeats 8000000
open Go.Proofs Go.Proofs.YtioofhilohmfbaaGreatDoorW
section
open Go.RowKit PrintWords PrintLast PrintMore
namespace Go.Proofs.YtioofhilohmfbaaGreatDoor.P
attribute [local go_sem] za3 za4 zbh zbi zaT zaU za5 za6 zbn
def zbj.j0 : Nat → Bool → List Int → List Int → Bool → Option (Bool × List Int × List Int × Int)
 | 0, _, _, _, _ => none
 | k + 1, x0, x1, x2, x8 => if x8 = true then (some (false, ([] : List Int), ([] : List Int), 2)) else (if (x2.length : Int) = 0 then (some (false, ([] : List Int), ([] : List Int), 21)) else ((zaL.f k x0 x1 x2).bind fun bt4 => (some (bt4.1, bt4.2.1, bt4.2.2.1, bt4.2.2.2))))
def zbj.f (k : Nat) (a0 : Bool) (l1 : List Int) (l2 : List Int) : Option (Bool × List Int × List Int × Int) := (zbE.f l1).bind fun t2 => (if t2 = 0 then ((zbE.f l2).bind fun t3 => (if t3 = 0 then (zbj.j0 k a0 l1 l2 (decide ((mx (l1.length : Int) (l2.length : Int)) > 32))) else (zbj.j0 k a0 l1 l2 true))) else (zbj.j0 k a0 l1 l2 true))
theorem zbj.zbp : ∀ k, (∀ y0 y1 y2 y3, LeO (zbj.j0 k y0 y1 y2 y3) (zbj.j0 (k + 1) y0 y1 y2 y3))
 | 0 => fun _ _ _ _ r h => by simp [zbj.j0] at h
 | k + 1 => by
  have ih0 := zbj.zbp k
  ·intro y0 y1 y2 y3
   unfold zbj.j0
   repeat' with_reducible first | exact ih0 _ _ _ _ | exact zaL.mono _ _ _ _ | exact LeO.refl _ | exact LeO.none _ | refine LeO.ite ?_ ?_ | refine LeO.bind ?_ (fun _ => ?_)
theorem zbj.mono : ∀ a0 a1 a2 k, LeO (zbj.f k a0 a1 a2) (zbj.f (k + 1) a0 a1 a2) := by
 intro a0 a1 a2 k
 have ih0 := zbj.zbp k
 unfold zbj.f
 repeat' with_reducible first | exact ih0 _ _ _ _ | exact zaL.mono _ _ _ _ | exact LeO.refl _ | exact LeO.none _ | refine LeO.ite ?_ ?_ | refine LeO.bind ?_ (fun _ => ?_)
theorem zbj.calls (k : Nat) (a0 : Bool) (A1 : Option Addr) (c1 : Nat) (l1 : List Int) (A2 : Option Addr) (c2 : Nat) (l2 : List Int) (r1 : Bool) (r2 : List Int) (r3 : List Int) (r4 : Int) (w : World) (hr1 : Kd.C (Kd.int .u32) w A1 l1.length l1) (hc1 : l1.length ≤ c1) (hr2 : Kd.C (Kd.int .u32) w A2 l2.length l2) (hc2 : l2.length ≤ c2) (h : zbj.f k a0 l1 l2 = some (r1, r2, r3, r4)) :
  Calls Tryz.prog 96 #[.bool a0, .slice A1 l1.length c1, .slice A2 l2.length c2] w fun e w' => ∃ v1_ v2_ : Value, e = .returned (.tuple #[.agg #[.bool r1, v1_, v2_], .int .i64 r4]) ∧ Kd.R (Kd.int .u32) 109 w' w.heap.size (fun k_ => some k_ ≠ (v2_ : Value).ownBlock) v1_ r2 ∧ Kd.R (Kd.int .u32) 109 w' w.heap.size (fun k_ => some k_ ≠ (v1_ : Value).ownBlock) v2_ r3 ∧ Below w.heap.size w w' := by
 have hu41 := Tryz.underlying41
 have HR1 := zaa.mk hr1
 have HC1 := zaa.mk hc1
 clear hr1 hc1
 have HR2 := zaa.mk hr2
 have HC2 := zaa.mk hc2
 clear hr2 hc2
 have HB := zaa.mk (Below.refl w.heap.size w)
 have H : ((zbE.f l1).bind fun t2 => (if t2 = 0 then ((zbE.f l2).bind fun t3 => (if t3 = 0 then (zbj.j0 k a0 l1 l2 (decide ((mx (l1.length : Int) (l2.length : Int)) > 32))) else (zbj.j0 k a0 l1 l2 true))) else (zbj.j0 k a0 l1 l2 true))) = some (r1, r2, r3, r4) := h
 clear h
 have HC4 := zaa.mk H
 clear H
 go_enter Tryz.func96, Tryz.ntmps96
 go_upto_region 1 with (first | ((with_reducible refine zaA (N := 6) rfl ?_); (try (refine zcD (by rfl) ?_; dsimp only)); refine zaN ?hg (N := 6) ?hd (cs := #[.bool false, .slice none 0 0, .slice none 0 0]) (t := 41) ?hr ?_; (case hd => rfl); (case hg => rfl); (case hr => first | (go_simp; done) | (go_simp; rfl)); intro gb1 hg w5 hbox hb; have n0_ := zaa.mk (zab (lc HB.out) hb); have n1_ := zaa.mk (hbox); have n2_ := zaa.mk ((by rw [hg]; exact (zad (lc HB.out)) : w.heap.size ≤ gb1)); have n3_ := zaa.mk ((by rw [hg]; exact (zad (lc HB.out)) : w.heap.size ≤ gb1)); clear HB; have HB := n0_; have BK1 := n1_; have GW1 := n2_; have GE1 := n3_; clear n0_ n1_ n2_ n3_; clear hb hbox hg))
 (try simp only [Act.put, List.setIfInBounds_toArray, List.set_cons_zero, List.set_cons_succ])
 go_cut [8] (fun v8 wc => ∃ (kq : Nat) (x8_3 : Bool), v8 = .bool x8_3 ∧ zaa (zbj.j0 kq a0 l1 l2 x8_3 = some (r1, r2, r3, r4)) ∧ zaa (kq ≤ k) ∧ zaa (wc.heap[gb1]? = some (.cells #[.bool false, (.slice none 0 0), (.slice none 0 0)] 41 (0, 0))) ∧ zaa (Below w.heap.size w wc))
 case first =>
  have H := HC4.out
  clear HC4
  replace H := zBE H
  obtain ⟨t2, A60, H⟩ := H
  replace H : (if t2 = 0 then ((zbE.f l2).bind fun t3 => (if t3 = 0 then (zbj.j0 k a0 l1 l2 (decide ((mx (l1.length : Int) (l2.length : Int)) > 32))) else (zbj.j0 k a0 l1 l2 true))) else (zbj.j0 k a0 l1 l2 true)) = some (r1, r2, r3, r4) := H
  have A6 := zaa.mk A60
  clear A60
  by_cases c7 : t2 = 0
  ·rw [if_pos c7] at H
   have c7b0 : (t2 == 0) = true := beq_iff_eq.mpr c7
   have c7b1 : (t2 != 0) = false := bne_eq_false_iff_eq.mpr c7
   clear c7
   (first | rw [c7b0] | (simp only [zbs, zbR]; rw [c7b0]) | skip)
   replace H := zBE H
   obtain ⟨t3, A80, H⟩ := H
   replace H : (if t3 = 0 then (zbj.j0 k a0 l1 l2 (decide ((mx (l1.length : Int) (l2.length : Int)) > 32))) else (zbj.j0 k a0 l1 l2 true)) = some (r1, r2, r3, r4) := H
   have A8 := zaa.mk A80
   clear A80
   by_cases c9 : t3 = 0
   ·rw [if_pos c9] at H
    have c9b0 : (t3 == 0) = true := beq_iff_eq.mpr c9
    have c9b1 : (t3 != 0) = false := bne_eq_false_iff_eq.mpr c9
    clear c9
    obtain ⟨ji10, hji10⟩ : ∃ j_ : Int, (mx (l1.length : Int) (l2.length : Int)) = j_ := ⟨_, rfl⟩
    replace H : (zbj.j0 k a0 l1 l2 (decide ((ji10) > 32))) = some (r1, r2, r3, r4) := by first | (rw [hji10] at H; exact H) | (simp only [hji10] at H ⊢; exact H)
    (try rw [hji10] at A6)
    (try rw [hji10] at A8)
    (try (have hji10l : 0 ≤ ji10 := by (rw [← hji10]; unfold mx; (repeat' split) <;> omega)))
    (try (have hji10m : 0 ≤ ji10 := by omega))
    have hji10_ : (if (l1.length : Int) < (l2.length : Int) then (l2.length : Int) else (l1.length : Int)) = ji10 := hji10
    have hmaxn_ : (if l1.length < l2.length then (l2.length : Int) else (l1.length : Int)) = ji10 := by rw [← hji10_]; by_cases h_ : l1.length < l2.length <;> simp [h_]
    have hmaxv_ : (if l1.length < l2.length then Value.int .i64 (l2.length : Int) else Value.int .i64 (l1.length : Int)) = Value.int .i64 ji10 := by rw [← hmaxn_]; split <;> rfl
    have H' := zaa.mk H
    clear H
    go_wp2_with (first | (go_at_call 138; (with_reducible refine (zbE.calls _ _ l1 t2 _ ?side1 ?side2 A6.out).mono ?_); (case side1 => exact cc (Kd.zaY HR1.out HB.out)); (case side2 => exact HC1.out); rintro e w' ⟨rfl, ⟨nd, rfl⟩⟩) | (go_at_call 138; (with_reducible refine (zbE.calls _ _ l2 t3 _ ?side1 ?side2 A8.out).mono ?_); (case side1 => repeat (first | exact (Kd.zaY HR2.out lb) | (with_reducible refine Kd.zdF ?_ _) | (with_reducible refine Kd.zdq ?_ _) | (with_reducible refine Kd.zeG ?_))); (case side2 => exact HC2.out); rintro e w' ⟨rfl, ⟨nd, rfl⟩⟩))
    go_meet
    case rel => exact ⟨_, (decide ((ji10) > 32)), (by first | rfl | (simp; done) | (simp only [← hji10] <;> (first | rfl | simp)) | (simp [*]; done)), H', ⟨by first | omega | exact Nat.le_refl _⟩, ⟨by (with_reducible repeat (first | refine zap ?_ _ | refine zar ?_ | refine zai ?_ _)); exact BK1.out⟩, ⟨lb⟩⟩
   ·rw [if_neg c9] at H
    have c9b0 : (t3 == 0) = false := beq_eq_false_iff_ne.mpr c9
    have c9b1 : (t3 != 0) = true := bne_iff_ne.mpr c9
    have H' := zaa.mk H
    clear H
    go_wp2_with (first | (go_at_call 138; (with_reducible refine (zbE.calls _ _ l1 t2 _ ?side1 ?side2 A6.out).mono ?_); (case side1 => exact cc (Kd.zaY HR1.out HB.out)); (case side2 => exact HC1.out); rintro e w' ⟨rfl, ⟨nd, rfl⟩⟩) | (go_at_call 138; (with_reducible refine (zbE.calls _ _ l2 t3 _ ?side1 ?side2 A8.out).mono ?_); (case side1 => repeat (first | exact (Kd.zaY HR2.out lb) | (with_reducible refine Kd.zdF ?_ _) | (with_reducible refine Kd.zdq ?_ _) | (with_reducible refine Kd.zeG ?_))); (case side2 => exact HC2.out); rintro e w' ⟨rfl, ⟨nd, rfl⟩⟩))
    go_meet
    case rel => exact ⟨_, (true), rs, H', ⟨by first | omega | exact Nat.le_refl _⟩, ⟨by (with_reducible repeat (first | refine zap ?_ _ | refine zar ?_ | refine zai ?_ _)); exact BK1.out⟩, ⟨lb⟩⟩
  ·rw [if_neg c7] at H
   have c7b0 : (t2 == 0) = false := beq_eq_false_iff_ne.mpr c7
   have c7b1 : (t2 != 0) = true := bne_iff_ne.mpr c7
   (first | rw [c7b0] | (simp only [zbs, zbR]; rw [c7b0]) | skip)
   have H' := zaa.mk H
   clear H
   go_wp2_with (first | (go_at_call 138; (with_reducible refine (zbE.calls _ _ l1 t2 _ ?side1 ?side2 A6.out).mono ?_); (case side1 => exact cc (Kd.zaY HR1.out HB.out)); (case side2 => exact HC1.out); rintro e w' ⟨rfl, ⟨nd, rfl⟩⟩))
   go_meet
   case rel => exact ⟨_, (true), rs, H', ⟨by first | omega | exact Nat.le_refl _⟩, ⟨by (with_reducible repeat (first | refine zap ?_ _ | refine zar ?_ | refine zai ?_ _)); exact BK1.out⟩, ⟨lb⟩⟩
 case rest =>
  clear HC4
  try clear c1
  try clear c2
  try clear p2
  try clear c7
  try clear c7b0
  try clear c7b1
  try clear c9
  try clear c9b0
  try clear c9b1
  obtain ⟨kq, x8_3, rfl, HA, HJ3, BK1, HB⟩ := hcut
  cases kq with
  | zero => exact absurd HA.out (by simp [zbj.j0])
  | succ kj3 =>
   have H := HA.out
   clear HA
   simp only [zbj.j0] at H
   by_cases c11 : x8_3 = true
   ·subst c11
    have H1 : (some (false, ([] : List Int), ([] : List Int), 2)) = some (r1, r2, r3, r4) := by rw [if_pos rfl] at H; exact H
    clear H
    have H := H1
    clear H1
    simp only [Option.some.injEq, Prod.mk.injEq] at H
    obtain ⟨rfl, rfl, rfl, rfl⟩ := H
    have hcz12_0 : wc.cell? ⟨gb1, 0, none⟩ = some (.bool false) := (zah BK1.out 0).trans rfl
    have hcz12_1 : wc.cell? ⟨gb1, 1, none⟩ = some (.slice none 0 0) := (zah BK1.out 1).trans rfl
    have hcz12_2 : wc.cell? ⟨gb1, 2, none⟩ = some (.slice none 0 0) := (zah BK1.out 2).trans rfl
    have hfz12_0 := zae BK1.out 0
    have hfz12_1 := zae BK1.out 1
    have hfz12_2 := zae BK1.out 2
    go_wp2
    refine bodyPost_ret (zba rfl _ _ gb1 41 #[.bool false, .slice none 0 0, .slice none 0 0] (0, 0) _ rfl (by (with_reducible repeat (first | refine zap ?_ _ | refine zar ?_ | refine zai ?_ _)); refine zaB (cs := #[.bool false, .slice none 0 0, .slice none 0 0]) ?_ 2 _ rfl; (with_reducible repeat (first | refine zap ?_ _ | refine zar ?_ | refine zai ?_ _)); refine zaB (cs := #[.bool false, .slice none 0 0, .slice none 0 0]) ?_ 1 _ rfl; (with_reducible repeat (first | refine zap ?_ _ | refine zar ?_ | refine zai ?_ _)); refine zaB (cs := #[.bool false, .slice none 0 0, .slice none 0 0]) ?_ 0 _ rfl; (with_reducible repeat (first | refine zap ?_ _ | refine zar ?_ | refine zai ?_ _)); exact BK1.out) Tryz.underlying41 rfl (by kernel_rfl)) rfl ?_
    exact ⟨_, _, by first | rfl | (simp [zaf, zag] <;> rfl) | (simp [*, zaf, zag] <;> rfl), by first | exact Kd.zcl _ _ _ _ _ | exact Kd.zdi _ _ _ _ _ | exact Kd.zcA _ _ _ _ _ | exact Kd.zdf _ _ _ _ _ | exact Kd.zdh _ _ _ _ _, by first | exact Kd.zcl _ _ _ _ _ | exact Kd.zdi _ _ _ _ _ | exact Kd.zcA _ _ _ _ _ | exact Kd.zdf _ _ _ _ _ | exact Kd.zdh _ _ _ _ _, lb⟩
   ·replace c11 := Bool.eq_false_iff.mpr c11
    subst c11
    have H1 : (if (l2.length : Int) = 0 then (some (false, ([] : List Int), ([] : List Int), 21)) else ((zaL.f kj3 a0 l1 l2).bind fun bt4 => (some (bt4.1, bt4.2.1, bt4.2.2.1, bt4.2.2.2)))) = some (r1, r2, r3, r4) := by rw [if_neg (show ¬ (false = true) by decide)] at H; exact H
    clear H
    have H := H1
    clear H1
    by_cases c13 : (l2.length : Int) = 0
    ·rw [if_pos c13] at H
     have c13b0 : ((l2.length : Int) == 0) = true := beq_iff_eq.mpr c13
     have c13b1 : ((l2.length : Int) != 0) = false := bne_eq_false_iff_eq.mpr c13
     clear c13
     simp only [Option.some.injEq, Prod.mk.injEq] at H
     obtain ⟨rfl, rfl, rfl, rfl⟩ := H
     have hcz14_0 : wc.cell? ⟨gb1, 0, none⟩ = some (.bool false) := (zah BK1.out 0).trans rfl
     have hcz14_1 : wc.cell? ⟨gb1, 1, none⟩ = some (.slice none 0 0) := (zah BK1.out 1).trans rfl
     have hcz14_2 : wc.cell? ⟨gb1, 2, none⟩ = some (.slice none 0 0) := (zah BK1.out 2).trans rfl
     have hfz14_0 := zae BK1.out 0
     have hfz14_1 := zae BK1.out 1
     have hfz14_2 := zae BK1.out 2
     go_wp2
     refine bodyPost_ret (zba rfl _ _ gb1 41 #[.bool false, .slice none 0 0, .slice none 0 0] (0, 0) _ rfl (by (with_reducible repeat (first | refine zap ?_ _ | refine zar ?_ | refine zai ?_ _)); refine zaB (cs := #[.bool false, .slice none 0 0, .slice none 0 0]) ?_ 2 _ rfl; (with_reducible repeat (first | refine zap ?_ _ | refine zar ?_ | refine zai ?_ _)); refine zaB (cs := #[.bool false, .slice none 0 0, .slice none 0 0]) ?_ 1 _ rfl; (with_reducible repeat (first | refine zap ?_ _ | refine zar ?_ | refine zai ?_ _)); refine zaB (cs := #[.bool false, .slice none 0 0, .slice none 0 0]) ?_ 0 _ rfl; (with_reducible repeat (first | refine zap ?_ _ | refine zar ?_ | refine zai ?_ _)); exact BK1.out) Tryz.underlying41 rfl (by kernel_rfl)) rfl ?_
     exact ⟨_, _, by first | rfl | (simp [zaf, zag] <;> rfl) | (simp [*, zaf, zag] <;> rfl), by first | exact Kd.zcl _ _ _ _ _ | exact Kd.zdi _ _ _ _ _ | exact Kd.zcA _ _ _ _ _ | exact Kd.zdf _ _ _ _ _ | exact Kd.zdh _ _ _ _ _, by first | exact Kd.zcl _ _ _ _ _ | exact Kd.zdi _ _ _ _ _ | exact Kd.zcA _ _ _ _ _ | exact Kd.zdf _ _ _ _ _ | exact Kd.zdh _ _ _ _ _, lb⟩
    ·rw [if_neg c13] at H
     have c13b0 : ((l2.length : Int) == 0) = false := beq_eq_false_iff_ne.mpr c13
     have c13b1 : ((l2.length : Int) != 0) = true := bne_iff_ne.mpr c13
     have c13b2 : ¬ (l2 = []) := fun h_ => c13 (by rw [h_]; rfl)
     replace H := zBE H
     obtain ⟨⟨t4, t5, t8, t11⟩, A150, H⟩ := H
     replace H : (some (t4, t5, t8, t11)) = some (r1, r2, r3, r4) := H
     have A15 := zaa.mk A150
     clear A150
     simp only [Option.some.injEq, Prod.mk.injEq] at H
     obtain ⟨rfl, rfl, rfl, rfl⟩ := H
     go_wp2_with (first | (go_at_call 139; (with_reducible refine (zaL.calls kj3 a0 _ _ l1 _ _ l2 t4 t5 t8 t11 _ ?side1 ?side2 ?side3 ?side4 A15.out).mono ?_); (case side1 => exact cc (Kd.zaY HR1.out HB.out)); (case side2 => exact HC1.out); (case side3 => exact cc (Kd.zaY HR2.out HB.out)); (case side4 => exact HC2.out); rintro e w16 ⟨v6, v9, rfl, ho0, ho1, hb⟩; have n0_ := zaa.mk (Kd.zaz ho0 (zad lb)); have n1_ := zaa.mk (Kd.zaz ho1 (zad lb)); have n2_ := zaa.mk (zak (g := gb1) (o := .cells #[.bool false, .slice none 0 0, .slice none 0 0] 41 (0, 0)) (bc BK1.out) hb); have n3_ := zaa.mk (zab lb hb); clear BK1; clear HB; have HO7 := n0_; have HO10 := n1_; have BK1 := n2_; have HB := n3_; clear n0_ n1_ n2_ n3_; (try clear hb); (try clear hb2); (try clear hk); (try clear hi); (try clear ho0); (try clear ho1); have hcz17_0 : w16.cell? ⟨gb1, 0, none⟩ = some (.bool false) := (zah BK1.out 0).trans rfl; have hcz17_1 : w16.cell? ⟨gb1, 1, none⟩ = some (.slice none 0 0) := (zah BK1.out 1).trans rfl; have hcz17_2 : w16.cell? ⟨gb1, 2, none⟩ = some (.slice none 0 0) := (zah BK1.out 2).trans rfl; have hfz17_0 := zae BK1.out 0; have hfz17_1 := zae BK1.out 1; have hfz17_2 := zae BK1.out 2; obtain ⟨Ao18, co18, eo18⟩ := Kd.zaC HO7.out; subst eo18; obtain ⟨Ao19, co19, eo19⟩ := Kd.zaC HO10.out; subst eo19))
     refine bodyPost_ret (zba rfl _ _ gb1 41 #[.bool t4, .slice Ao18 t5.length co18, .slice Ao19 t8.length co19] (0, 0) _ rfl (by (with_reducible repeat (first | refine zap ?_ _ | refine zar ?_ | refine zai ?_ _)); refine zaB (cs := #[.bool t4, .slice Ao18 t5.length co18, .slice none 0 0]) ?_ 2 _ rfl; (with_reducible repeat (first | refine zap ?_ _ | refine zar ?_ | refine zai ?_ _)); refine zaB (cs := #[.bool t4, .slice none 0 0, .slice none 0 0]) ?_ 1 _ rfl; (with_reducible repeat (first | refine zap ?_ _ | refine zar ?_ | refine zai ?_ _)); refine zaB (cs := #[.bool false, .slice none 0 0, .slice none 0 0]) ?_ 0 _ rfl; (with_reducible repeat (first | refine zap ?_ _ | refine zar ?_ | refine zai ?_ _)); exact BK1.out) Tryz.underlying41 rfl (by kernel_rfl)) rfl ?_
     exact ⟨_, _, by first | rfl | (simp [zaf, zag] <;> rfl) | (simp [*, zaf, zag] <;> rfl), by (with_reducible repeat (first | apply Kd.zaQ | apply Kd.zaR | apply Kd.zbb)); exact Kd.za7 (Kd.zck (p := ⟨gb1, 2, none⟩) (Kd.zck (p := ⟨gb1, 1, none⟩) (Kd.zck (p := ⟨gb1, 0, none⟩) (Kd.zfs HO7.out BK1.out (by decide)) (fun _ hk => hk.2) (.bool t4)) (fun _ hk => hk.2) (.slice Ao18 t5.length co18)) (fun _ hk => hk.2) (.slice Ao19 t8.length co19)) (fun _ hk => hk.1), by (with_reducible repeat (first | apply Kd.zaQ | apply Kd.zaR | apply Kd.zbb)); exact Kd.za7 (Kd.zck (p := ⟨gb1, 2, none⟩) (Kd.zck (p := ⟨gb1, 1, none⟩) (Kd.zck (p := ⟨gb1, 0, none⟩) (Kd.zfs HO10.out BK1.out (by decide)) (fun _ hk => hk.2) (.bool t4)) (fun _ hk => hk.2) (.slice Ao18 t5.length co18)) (fun _ hk => hk.2) (.slice Ao19 t8.length co19)) (fun _ hk => hk.1), lb⟩
def zeb.f (k : Nat) (a0 : Int) : Option (Bool × List Int × List Int) := if a0 < 0 then ((zbJ.f k (IntKind.u64.wrap (-(IntKind.u64.wrap (a0))))).bind fun t2 => ((zbL.f k).bind fun t5 => (some (decide (a0 < 0), t2, t5)))) else ((zbJ.f k (IntKind.u64.wrap (a0))).bind fun t8 => ((zbL.f k).bind fun t11 => (some (decide (a0 < 0), t8, t11))))
theorem zeb.mono : ∀ a0 k, LeO (zeb.f k a0) (zeb.f (k + 1) a0) := by
 intro a0 k
 unfold zeb.f
 repeat' with_reducible first | exact zbJ.mono _ _ | exact zbL.mono _ | exact LeO.refl _ | exact LeO.none _ | refine LeO.ite ?_ ?_ | refine LeO.bind ?_ (fun _ => ?_)
theorem zeb.calls (k : Nat) (a0 : Int) (r1 : Bool) (r2 : List Int) (r3 : List Int) (w : World) (h : zeb.f k a0 = some (r1, r2, r3)) :
  Calls Tryz.prog 103 #[.int .i64 a0] w fun e w' => ∃ v1_ v2_ : Value, e = .returned (.agg #[.bool r1, v1_, v2_]) ∧ Kd.V (Kd.int .u32) 109 w' w.heap.size (fun k_ => (w.heap.size ≤ k_)) v1_ r2 ∧ Kd.V (Kd.int .u32) 109 w' w.heap.size (fun k_ => (w.heap.size ≤ k_)) v2_ r3 ∧ Below w.heap.size w w' := by
 have hu41 := Tryz.underlying41
 have HB := zaa.mk (Below.refl w.heap.size w)
 have H : (if a0 < 0 then ((zbJ.f k (IntKind.u64.wrap (-(IntKind.u64.wrap (a0))))).bind fun t2 => ((zbL.f k).bind fun t5 => (some (decide (a0 < 0), t2, t5)))) else ((zbJ.f k (IntKind.u64.wrap (a0))).bind fun t8 => ((zbL.f k).bind fun t11 => (some (decide (a0 < 0), t8, t11))))) = some (r1, r2, r3) := h
 clear h
 by_cases c2 : a0 < 0
 ·rw [if_pos c2] at H
  have c2b0 : decide (a0 < 0) = true := zDT c2
  clear c2
  replace H := zBE H
  obtain ⟨t2, A30, H⟩ := H
  replace H : ((zbL.f k).bind fun t5 => (some (decide (a0 < 0), t2, t5))) = some (r1, r2, r3) := H
  have A3 := zaa.mk A30
  clear A30
  replace H := zBE H
  obtain ⟨t5, A40, H⟩ := H
  replace H : (some (decide (a0 < 0), t2, t5)) = some (r1, r2, r3) := H
  have A4 := zaa.mk A40
  clear A40
  simp only [Option.some.injEq, Prod.mk.injEq] at H
  obtain ⟨rfl, rfl, rfl⟩ := H
  simp only [c2b0]
  go_enter Tryz.func103, Tryz.ntmps103
  go_wp2_with (first | ((with_reducible refine zaA (N := 2) rfl ?_); refine zaN ?hg (N := 2) ?hd (cs := #[.bool false, .slice none 0 0, .slice none 0 0]) (t := 41) ?hr ?_; (case hd => rfl); (case hg => rfl); (case hr => first | (go_simp; done) | (go_simp; rfl)); intro gb1 hg w5 hbox hb; have n0_ := zaa.mk (zab (lc HB.out) hb); have n1_ := zaa.mk (hbox); have n2_ := zaa.mk ((by rw [hg]; exact (zad (lc HB.out)) : w.heap.size ≤ gb1)); have n3_ := zaa.mk ((by rw [hg]; exact (zad (lc HB.out)) : w.heap.size ≤ gb1)); clear HB; have HB := n0_; have BK1 := n1_; have GW1 := n2_; have GE1 := n3_; clear n0_ n1_ n2_ n3_; clear hb hbox hg) | (go_at_call 137; (with_reducible refine (zbJ.calls k (IntKind.u64.wrap (-(IntKind.u64.wrap (a0)))) t2 _ A3.out).mono ?_); rintro e w6 ⟨v3, rfl, ho0, hb⟩; have n0_ := zaa.mk (Kd.zbU (Kd.zbH (ok' := fun k_ => (w.heap.size ≤ k_) ∧ k_ ≠ gb1) ho0 (fun k_ hk_ => ⟨(Nat.le_trans (zad lb) hk_), (Kd.ze1 (g := gb1) (o := .cells #[.bool false, .slice none 0 0, .slice none 0 0] 41 (0, 0)) (bc BK1.out) k_ hk_)⟩)) (zad lb)); have n1_ := zaa.mk (zak (g := gb1) (o := .cells #[.bool false, .slice none 0 0, .slice none 0 0] 41 (0, 0)) (bc BK1.out) hb); have n2_ := zaa.mk (zab lb hb); clear BK1; clear HB; have HO4 := n0_; have BK1 := n1_; have HB := n2_; clear n0_ n1_ n2_; (try clear hb); (try clear hb2); (try clear hk); (try clear hi); (try clear ho0)) | (go_at_call 132; (with_reducible refine (zbL.calls k  t5 _ A4.out).mono ?_); rintro e w7 ⟨v6, rfl, ho0, hb⟩; have n0_ := zaa.mk (Kd.zaW (vc HO4.out) hb); have n1_ := zaa.mk (Kd.zbU (Kd.zbH (ok' := fun k_ => (w.heap.size ≤ k_) ∧ k_ ≠ gb1) ho0 (fun k_ hk_ => ⟨(Nat.le_trans (zad lb) hk_), (Kd.ze1 (g := gb1) (o := .cells #[.bool false, .slice none 0 0, .slice none 0 0] 41 (0, 0)) (bc BK1.out) k_ hk_)⟩)) (zad lb)); have n2_ := zaa.mk (zak (g := gb1) (o := .cells #[.bool false, .slice none 0 0, .slice none 0 0] 41 (0, 0)) (bc BK1.out) hb); have n3_ := zaa.mk (zab lb hb); clear HO4; clear BK1; clear HB; have HO4 := n0_; have HO7 := n1_; have BK1 := n2_; have HB := n3_; clear n0_ n1_ n2_ n3_; (try clear hb); (try clear hb2); (try clear hk); (try clear hi); (try clear ho0); obtain ⟨Ao8, co8, eo8⟩ := Kd.zbe HO7.out; subst eo8; obtain ⟨Ao9, co9, eo9⟩ := Kd.zbe HO4.out; subst eo9; have hcz10_0 : w7.cell? ⟨gb1, 0, none⟩ = some (.bool false) := (zah BK1.out 0).trans rfl; have hcz10_1 : w7.cell? ⟨gb1, 1, none⟩ = some (.slice none 0 0) := (zah BK1.out 1).trans rfl; have hcz10_2 : w7.cell? ⟨gb1, 2, none⟩ = some (.slice none 0 0) := (zah BK1.out 2).trans rfl; have hfz10_0 := zae BK1.out 0; have hfz10_1 := zae BK1.out 1; have hfz10_2 := zae BK1.out 2))
  refine bodyPost_ret (results_cell_row rfl _ _ gb1 41 #[.bool (true), .slice Ao9 t2.length co9, .slice Ao8 t5.length co8] (0, 0) _ rfl (by (with_reducible repeat (first | refine zap ?_ _ | refine zar ?_ | refine zai ?_ _)); refine zaB (cs := #[.bool (true), .slice Ao9 t2.length co9, .slice none 0 0]) ?_ 2 _ rfl; (with_reducible repeat (first | refine zap ?_ _ | refine zar ?_ | refine zai ?_ _)); refine zaB (cs := #[.bool (true), .slice none 0 0, .slice none 0 0]) ?_ 1 _ rfl; (with_reducible repeat (first | refine zap ?_ _ | refine zar ?_ | refine zai ?_ _)); refine zaB (cs := #[.bool false, .slice none 0 0, .slice none 0 0]) ?_ 0 _ rfl; (with_reducible repeat (first | refine zap ?_ _ | refine zar ?_ | refine zai ?_ _)); exact BK1.out) Tryz.underlying41 rfl (by kernel_rfl)) rfl ?_
  exact ⟨_, _, by first | rfl | (simp [zaf, zag] <;> rfl) | (simp [*, zaf, zag] <;> rfl), by (with_reducible repeat (first | apply Kd.zaZ | apply Kd.zbr | apply Kd.zbI)); exact Kd.zbH (Kd.zef (p := ⟨gb1, 2, none⟩) (Kd.zef (p := ⟨gb1, 1, none⟩) (Kd.zef (p := ⟨gb1, 0, none⟩) (Kd.zbH HO4.out (fun k_ hk => (⟨hk, hk.2⟩ : _ ∧ k_ ≠ gb1))) (fun _ hk => hk.2) (.bool (true))) (fun _ hk => hk.2) (.slice Ao9 t2.length co9)) (fun _ hk => hk.2) (.slice Ao8 t5.length co8)) (fun _ hk => hk.1.1), by (with_reducible repeat (first | apply Kd.zaZ | apply Kd.zbr | apply Kd.zbI)); exact Kd.zbH (Kd.zef (p := ⟨gb1, 2, none⟩) (Kd.zef (p := ⟨gb1, 1, none⟩) (Kd.zef (p := ⟨gb1, 0, none⟩) (Kd.zbH HO7.out (fun k_ hk => (⟨hk, hk.2⟩ : _ ∧ k_ ≠ gb1))) (fun _ hk => hk.2) (.bool (true))) (fun _ hk => hk.2) (.slice Ao9 t2.length co9)) (fun _ hk => hk.2) (.slice Ao8 t5.length co8)) (fun _ hk => hk.1.1), lb⟩
 ·rw [if_neg c2] at H
  have c2b0 : decide (a0 < 0) = false := zDF c2
  clear c2
  replace H := zBE H
  obtain ⟨t8, A110, H⟩ := H
  replace H : ((zbL.f k).bind fun t11 => (some (decide (a0 < 0), t8, t11))) = some (r1, r2, r3) := H
  have A11 := zaa.mk A110
  clear A110
  replace H := zBE H
  obtain ⟨t11, A120, H⟩ := H
  replace H : (some (decide (a0 < 0), t8, t11)) = some (r1, r2, r3) := H
  have A12 := zaa.mk A120
  clear A120
  simp only [Option.some.injEq, Prod.mk.injEq] at H
  obtain ⟨rfl, rfl, rfl⟩ := H
  simp only [c2b0]
  go_enter Tryz.func103, Tryz.ntmps103
  go_wp2_with (first | ((with_reducible refine zaA (N := 2) rfl ?_); refine zaN ?hg (N := 2) ?hd (cs := #[.bool false, .slice none 0 0, .slice none 0 0]) (t := 41) ?hr ?_; (case hd => rfl); (case hg => rfl); (case hr => first | (go_simp; done) | (go_simp; rfl)); intro gb1 hg w13 hbox hb; have n0_ := zaa.mk (zab (lc HB.out) hb); have n1_ := zaa.mk (hbox); have n2_ := zaa.mk ((by rw [hg]; exact (zad (lc HB.out)) : w.heap.size ≤ gb1)); have n3_ := zaa.mk ((by rw [hg]; exact (zad (lc HB.out)) : w.heap.size ≤ gb1)); clear HB; have HB := n0_; have BK1 := n1_; have GW1 := n2_; have GE1 := n3_; clear n0_ n1_ n2_ n3_; clear hb hbox hg) | (go_at_call 137; (with_reducible refine (zbJ.calls k (IntKind.u64.wrap (a0)) t8 _ A11.out).mono ?_); rintro e w14 ⟨v9, rfl, ho0, hb⟩; have n0_ := zaa.mk (Kd.zbU (Kd.zbH (ok' := fun k_ => (w.heap.size ≤ k_) ∧ k_ ≠ gb1) ho0 (fun k_ hk_ => ⟨(Nat.le_trans (zad lb) hk_), (Kd.ze1 (g := gb1) (o := .cells #[.bool false, .slice none 0 0, .slice none 0 0] 41 (0, 0)) (bc BK1.out) k_ hk_)⟩)) (zad lb)); have n1_ := zaa.mk (zak (g := gb1) (o := .cells #[.bool false, .slice none 0 0, .slice none 0 0] 41 (0, 0)) (bc BK1.out) hb); have n2_ := zaa.mk (zab lb hb); clear BK1; clear HB; have HO10 := n0_; have BK1 := n1_; have HB := n2_; clear n0_ n1_ n2_; (try clear hb); (try clear hb2); (try clear hk); (try clear hi); (try clear ho0)) | (go_at_call 132; (with_reducible refine (zbL.calls k  t11 _ A12.out).mono ?_); rintro e w15 ⟨v12, rfl, ho0, hb⟩; have n0_ := zaa.mk (Kd.zaW (vc HO10.out) hb); have n1_ := zaa.mk (Kd.zbU (Kd.zbH (ok' := fun k_ => (w.heap.size ≤ k_) ∧ k_ ≠ gb1) ho0 (fun k_ hk_ => ⟨(Nat.le_trans (zad lb) hk_), (Kd.ze1 (g := gb1) (o := .cells #[.bool false, .slice none 0 0, .slice none 0 0] 41 (0, 0)) (bc BK1.out) k_ hk_)⟩)) (zad lb)); have n2_ := zaa.mk (zak (g := gb1) (o := .cells #[.bool false, .slice none 0 0, .slice none 0 0] 41 (0, 0)) (bc BK1.out) hb); have n3_ := zaa.mk (zab lb hb); clear HO10; clear BK1; clear HB; have HO10 := n0_; have HO13 := n1_; have BK1 := n2_; have HB := n3_; clear n0_ n1_ n2_ n3_; (try clear hb); (try clear hb2); (try clear hk); (try clear hi); (try clear ho0); obtain ⟨Ao16, co16, eo16⟩ := Kd.zbe HO13.out; subst eo16; obtain ⟨Ao17, co17, eo17⟩ := Kd.zbe HO10.out; subst eo17; have hcz18_0 : w15.cell? ⟨gb1, 0, none⟩ = some (.bool false) := (zah BK1.out 0).trans rfl; have hcz18_1 : w15.cell? ⟨gb1, 1, none⟩ = some (.slice none 0 0) := (zah BK1.out 1).trans rfl; have hcz18_2 : w15.cell? ⟨gb1, 2, none⟩ = some (.slice none 0 0) := (zah BK1.out 2).trans rfl; have hfz18_0 := zae BK1.out 0; have hfz18_1 := zae BK1.out 1; have hfz18_2 := zae BK1.out 2))
  refine bodyPost_ret (results_cell_row rfl _ _ gb1 41 #[.bool (false), .slice Ao17 t8.length co17, .slice Ao16 t11.length co16] (0, 0) _ rfl (by (with_reducible repeat (first | refine zap ?_ _ | refine zar ?_ | refine zai ?_ _)); refine zaB (cs := #[.bool (false), .slice Ao17 t8.length co17, .slice none 0 0]) ?_ 2 _ rfl; (with_reducible repeat (first | refine zap ?_ _ | refine zar ?_ | refine zai ?_ _)); refine zaB (cs := #[.bool (false), .slice none 0 0, .slice none 0 0]) ?_ 1 _ rfl; (with_reducible repeat (first | refine zap ?_ _ | refine zar ?_ | refine zai ?_ _)); refine zaB (cs := #[.bool false, .slice none 0 0, .slice none 0 0]) ?_ 0 _ rfl; (with_reducible repeat (first | refine zap ?_ _ | refine zar ?_ | refine zai ?_ _)); exact BK1.out) Tryz.underlying41 rfl (by kernel_rfl)) rfl ?_
  exact ⟨_, _, by first | rfl | (simp [zaf, zag] <;> rfl) | (simp [*, zaf, zag] <;> rfl), by (with_reducible repeat (first | apply Kd.zaZ | apply Kd.zbr | apply Kd.zbI)); exact Kd.zbH (Kd.zef (p := ⟨gb1, 2, none⟩) (Kd.zef (p := ⟨gb1, 1, none⟩) (Kd.zef (p := ⟨gb1, 0, none⟩) (Kd.zbH HO10.out (fun k_ hk => (⟨hk, hk.2⟩ : _ ∧ k_ ≠ gb1))) (fun _ hk => hk.2) (.bool (false))) (fun _ hk => hk.2) (.slice Ao17 t8.length co17)) (fun _ hk => hk.2) (.slice Ao16 t11.length co16)) (fun _ hk => hk.1.1), by (with_reducible repeat (first | apply Kd.zaZ | apply Kd.zbr | apply Kd.zbI)); exact Kd.zbH (Kd.zef (p := ⟨gb1, 2, none⟩) (Kd.zef (p := ⟨gb1, 1, none⟩) (Kd.zef (p := ⟨gb1, 0, none⟩) (Kd.zbH HO13.out (fun k_ hk => (⟨hk, hk.2⟩ : _ ∧ k_ ≠ gb1))) (fun _ hk => hk.2) (.bool (false))) (fun _ hk => hk.2) (.slice Ao17 t8.length co17)) (fun _ hk => hk.2) (.slice Ao16 t11.length co16)) (fun _ hk => hk.1.1), lb⟩
end Go.Proofs.YtioofhilohmfbaaGreatDoor.P
end
section
open Go Go.RowKit PrintWords PrintLast PrintMore
namespace Go.Proofs.YtioofhilohmfbaaGreatDoor.P
def L (v : Nat) : List Int := lim 64 (v : Int)
def big (k v : Nat) : Prop := (v : Int) < 4294967296 ^ k
theorem zbt {j k v : Nat} (h : big j v) (hjk : j ≤ k) : big k v := Int.lt_of_lt_of_le h (zfT hjk)
theorem zcW {k v u : Nat} (h : big k v) (hu : u ≤ v) : big k u := by unfold big at *; omega
theorem zd2 {j k a b : Nat} (ha : big j a) (hb : big k b) : big (j + k) (a * b) := by
 unfold big at *
 rw [Int.pow_add, Int.natCast_mul]
 exact Int.lt_of_le_of_lt (Int.mul_le_mul_of_nonneg_left (Int.le_of_lt hb) (Int.natCast_nonneg a)) (Int.mul_lt_mul_of_pos_right ha (pow_pos k))
theorem zmo (k : Nat) (hk : 0 < k) : big k 1 := by
 unfold big
 have := zfT (show 1 ≤ k by omega)
 have h1 : (4294967296 : Int) ^ 1 = 4294967296 := by decide
 omega
theorem zgJ {v : Nat} (k : Nat) (h : v < 4294967296) (hk : 0 < k) : big k v := by
 unfold big
 have := zfT (show 1 ≤ k by omega)
 have h1 : (4294967296 : Int) ^ 1 = 4294967296 := by decide
 omega
theorem L_U (v : Nat) : U (L v) := zhc _ _
theorem zfD (v : Nat) : (L v).length ≤ 64 := zeR _ _
theorem zjj {v : Nat} (h : big 64 v) : lv (L v) = v := zeM _ _ (Int.natCast_nonneg v) h
theorem zpu {v : Nat} (h : big 64 v) : Tr (L v) := zgH _ _ (Int.natCast_nonneg v) h
theorem zd3 {v k : Nat} (h : big 64 v) (hk : big k v) : (L v).length ≤ k := zfC (Int.natCast_nonneg v) h hk
theorem zpv {v k : Nat} (h : big 64 v) (hk : big k v) : lim k (v : Int) = L v := zeC (Int.natCast_nonneg v) hk h
theorem zhA : L 0 = [] := zh9 _
theorem zrc {v : Nat} (h : big 64 v) (hv : 0 < v) : L v ≠ [] := fun e => by
 have := zjj h
 rw [e, lv] at this
 omega
theorem zhe {v : Nat} (h : big 64 v) : big (L v).length v := by
 have := zdP (L_U v)
 rw [zjj h] at this
 exact this
theorem zjN {v : Nat} (h : big 64 v) : ((L v).length : Int) > 0 ↔ 0 < v := by
 constructor
 ·intro hl
  rcases Nat.eq_zero_or_pos v with h0 | h0
  ·rw [h0, zhA] at hl; simp at hl
  ·exact h0
 ·intro hv
  have := zrc h hv
  have : (L v).length ≠ 0 := fun e => this (List.eq_nil_of_length_eq_zero e)
  omega
theorem zmp (x y c : Int) (hx : 0 ≤ x ∧ x < 4294967296) (hy : 0 ≤ y ∧ y < 4294967296) (hc : 0 ≤ c ∧ c ≤ 1) : zct.f x y c = some ((x + y + c) % 4294967296, (x + y + c) / 4294967296) := by
 unfold zct.f
 rw [zcg x (by omega) (by omega), zcg y (by omega) (by omega), zcg c (by omega) (by omega), zcg (x + y) (by omega) (by omega), zcg (x + y + c) (by omega) (by omega)]
 congr 2
 omega
theorem ziN (a b : List Int) (hU : U a) (hV : U b) (hba : b.length ≤ a.length) (hn : a.length ≤ 70368744177664) :
  ∀ d i, i + d = a.length → ∀ (out : List Int) (c : Int), out.length = a.length + 1 → U out → (∀ p, i ≤ p → out.getD p 0 = 0) → 0 ≤ c ∧ c ≤ 1 →
   Ev (fun k => zaD.l0 k a b out c (a.length : Int) (i : Int)) (lim (a.length + 1) (lv out + 4294967296 ^ i * (lv (a.drop i) + lv (b.drop i) + c)))
 | 0, i, hi, out, c, hl, hO, hz, hc => by
  have h2 := zdG (a.length + 1) (out.set a.length c) (by rw [List.length_set]; exact hl) (by omega) (zhb hO _ _ hc.1 (by omega))
  rw [zeL _ _ _ (by omega), hz a.length (by omega), Int.sub_zero] at h2
  rw [List.drop_of_length_le (by omega), List.drop_of_length_le (by omega), lv, show i = a.length by omega, Int.zero_add, Int.zero_add]
  refine Ev.step (f := fun k => (zaM.f k (out.set a.length c)).bind fun t14 => some t14) (fun k => ?_) (Ev.bind h2 (Ev.now _))
  simp only [zaD.l0]
  rw [if_neg (by omega), if_pos (by omega), if_pos (by omega), Int.toNat_natCast]
 | d + 1, i, hi, out, c, hl, hO, hz, hc => by
  have e2 : wrap64 ((i : Int) + 1) = ((i + 1 : Nat) : Int) := by unfold wrap64; omega
  have ai := zda hU i
  have bi := zda hV i
  have hs := zmp (a.getD i 0) (b.getD i 0) c ai bi hc
  obtain ⟨x, hx⟩ : ∃ x, (a.getD i 0 + b.getD i 0 + c) % 4294967296 = x := ⟨_, rfl⟩
  obtain ⟨f, hf⟩ : ∃ f, (a.getD i 0 + b.getD i 0 + c) / 4294967296 = f := ⟨_, rfl⟩
  have hxf : a.getD i 0 + b.getD i 0 + c = x + 4294967296 * f ∧ 0 ≤ f ∧ f ≤ 1 ∧ 0 ≤ x ∧ x < 4294967296 := by omega
  rw [hx, hf] at hs
  have ih := ziN a b hU hV hba hn d (i + 1) (by omega) (out.set i x) f (by simp [hl]) (zhb hO _ _ (by omega) (by omega))
   (fun p hp => by rw [zcU _ _ _ _ (by omega), if_neg (by omega)]; exact hz p (by omega)) ⟨hxf.2.1, hxf.2.2.1⟩
  have e : lv (out.set i x) + 4294967296 ^ (i + 1) * (lv (a.drop (i + 1)) + lv (b.drop (i + 1)) + f) = lv out + 4294967296 ^ i * (lv (a.drop i) + lv (b.drop i) + c) := by
   rw [zeL _ _ _ (by omega), hz i (Nat.le_refl _), zcY a i, zcY b i, Int.pow_succ]
   clear ih hs hf hx
   generalize ((4294967296 : Int) ^ i) = p at *
   generalize lv (a.drop (i + 1)) = u at *
   generalize lv (b.drop (i + 1)) = v at *
   generalize a.getD i 0 = s at *
   generalize b.getD i 0 = t at *
   rw [show s + 4294967296 * u + (t + 4294967296 * v) + c = x + 4294967296 * (u + v + f) by omega, Int.sub_zero, Int.mul_assoc, Int.mul_add p x]
   omega
  rw [e] at ih
  refine Ev.step (fun k => ?_) ih
  have HS := zaa.mk hs
  clear hs ih hx hf e
  simp only [zaD.l0, zdQ, e2, Int.toNat_natCast]
  by_cases hb : i < b.length
  ·rw [if_pos (by omega), if_pos (by omega), if_pos (by omega), if_pos (by omega), HS.out]
   simp only [Option.bind_some]
   rw [if_pos (by omega)]
  ·have hz : b.getD i 0 = 0 := by rw [List.getD_eq_getElem?_getD, List.getElem?_eq_none (by omega)]; rfl
   have hs := HS.out
   rw [hz] at hs
   rw [if_pos (by omega), if_neg (by omega), if_pos (by omega), if_pos (by omega), hs]
   simp only [Option.bind_some]
   rw [if_pos (by omega)]
theorem zoy (a b : List Int) (hU : U a) (hV : U b) (hba : b.length ≤ a.length) (hn : a.length < 70368744177664) : Ev (fun k => zaD.g k a b) (lim (a.length + 1) (lv a + lv b)) := by
 have e : wrap64 ((a.length : Int) + 1) = ((a.length + 1 : Nat) : Int) := by unfold wrap64; omega
 have h := ziN a b hU hV hba (by omega) a.length 0 (by omega) (List.replicate (a.length + 1) 0) 0 (by simp) (ziH _) (fun p _ => zdz _ _) ⟨by decide, by decide⟩
 rw [zfd, List.drop_zero, List.drop_zero, Int.pow_zero, Int.one_mul, Int.add_zero, Int.zero_add] at h
 refine Ev.congr (fun k => ?_) h
 unfold zaD.g
 rw [e, if_pos (by omega), if_pos (by omega), Int.toNat_natCast]
 rfl
theorem zmq {a b : Nat} (ha : big 64 a) (hb : big 64 b) (hs : big 64 (a + b)) : Ev (fun k => zaD.f k (L a) (L b)) (L (a + b)) := by
 have hla := zfD a
 have hlb := zfD b
 have hv : ((a + b : Nat) : Int) = lv (L a) + lv (L b) := by rw [zjj ha, zjj hb]; omega
 have sz : ∀ x y : Nat, big 64 x → big 64 y → (L y).length ≤ (L x).length → big ((L x).length + 1) (x + y) := fun x y hx hy hl => by
  have h1 := zhe hx
  have h2 := zbt (zhe hy) hl
  unfold big at *
  rw [Int.pow_succ]
  omega
 by_cases hl : (L a).length < (L b).length
 ·have h := zoy (L b) (L a) (L_U b) (L_U a) (by omega) (by omega)
  rw [Int.add_comm, ← hv, zpv hs (by have := sz b a hb ha (by omega); rwa [Nat.add_comm b a] at this)] at h
  refine Ev.congr (fun k => ?_) h
  unfold zaD.f
  rw [if_pos (by omega)]
 ·have h := zoy (L a) (L b) (L_U a) (L_U b) (by omega) (by omega)
  rw [← hv, zpv hs (sz a b ha hb (by omega))] at h
  refine Ev.congr (fun k => ?_) h
  unfold zaD.f
  rw [if_neg (by omega)]
theorem zic {v : Nat} (h : big 64 v) : zbE.f (L v) = some 0 := by
 have hl := zfD v
 unfold zbE.f
 rw [if_neg (by omega)]
 by_cases h0 : ((L v).length : Int) > 0
 ·obtain ⟨n, hn⟩ : ∃ n, (L v).length = n + 1 := ⟨(L v).length - 1, by omega⟩
  have hne := (zib hn).1 (zpu h)
  have e0 : wrap64 (((L v).length : Int) - 1) = (n : Int) := by rw [hn]; unfold wrap64; omega
  rw [if_pos h0, e0, if_pos (by omega), if_pos (by omega), zdQ, if_neg hne]
 ·rw [if_neg h0]
theorem zhB {a b : Nat} (ha : big 64 a) (hb : big 64 b) : zby.f (L a) (L b) = some 0 := by
 unfold zby.f
 rw [zic ha, Option.bind_some, if_pos rfl, zic hb]
 rfl
theorem zpw {a b : Nat} (ha : big 64 a) (hb : big 64 b) (h0 : 0 < b) : zjI (L a) (L b) :=
 ⟨L_U a, zpu ha, L_U b, zpu hb, zrc hb h0, by have := zfD a; omega, by have := zfD b; omega⟩
theorem zkx {a b : Nat} (ha : big 64 a) (hb : big 64 b) (h0 : 0 < b) : zcm.f (L a) (L b) = some (L (a / b), L (a % b)) := by
 unfold zcm.f
 rw [if_pos (zpw ha hb h0), zjj ha, zjj hb, ← Int.natCast_ediv, ← Int.natCast_emod]
 have h1 : a / b ≤ a := Nat.div_le_self _ _
 have h2 : a % b < b := Nat.mod_lt _ h0
 rw [zpv (zcW ha h1) (zcW (zhe ha) h1), zpv (zcW hb (by omega)) (zcW (zhe hb) (by omega))]
theorem zmr (v : Nat) : zau.f (L v) = some (L v) := by
 unfold zau.f
 rw [if_pos (by have := zfD v; omega)]
theorem znM : ∀ (b : Nat), ∀ a : Nat, big 64 a → big 64 b → Ev (fun k => zbf.l0 k (L a) (L b)) (L (Nat.gcd a b), 0) := by
 intro b
 induction b using Nat.strongRecOn with
 | _ b ih =>
  intro a ha hb
  rcases Nat.eq_zero_or_pos b with h0 | h0
  ·subst h0
   refine Ev.at1 (fun k => ?_)
   simp only [zbf.l0]
   rw [zhA, if_neg (by simp), Nat.gcd_zero_right]
  ·have hm := Nat.mod_lt a h0
   have h := ih (a % b) hm b hb (zcW hb (by omega))
   rw [show Nat.gcd b (a % b) = Nat.gcd a b by rw [Nat.gcd_comm b, ← Nat.gcd_rec, Nat.gcd_comm]] at h
   refine Ev.step (fun k => ?_) h
   simp only [zbf.l0]
   rw [if_pos ((zjN hb).2 h0), zkx ha hb h0]
   rfl
theorem zms {a b : Nat} (ha : big 64 a) (hb : big 64 b) : Ev (fun k => zbf.f k (L a) (L b)) (L (Nat.gcd a b), 0) := by
 refine Ev.congr (fun k => ?_) (znM b a ha hb)
 unfold zbf.f
 rw [zhB ha hb, Option.bind_some, if_pos rfl, zmr, zmr]
 rfl
theorem zqr {a b : Nat} (ha : big 64 a) (hb : big 64 b) (h0 : 0 < b) : zb9.f (L a) (L b) = some (L (a / b), L (a % b), 0) := by
 unfold zb9.f
 have := (zjN hb).2 h0
 rw [zhB ha hb, Option.bind_some, if_pos rfl, if_neg (by omega), zkx ha hb h0]
 rfl
theorem zmt {a b : Nat} (ha : big 64 a) (hb : big 64 b) (hab : big 64 (a * b)) : Ev (fun k => zaG.f k (L a) (L b)) (L (a * b)) := by
 have h := zku (L a) (L b) (L_U a) (L_U b) (by have := zfD a; have := zfD b; omega)
 rw [zjj ha, zjj hb, ← Int.natCast_mul, zpv hab (zd2 (zhe ha) (zhe hb))] at h
 exact h
theorem zqs {a b : Nat} (ha : big 64 a) (hb : big 64 b) (hab : big 64 (a * b)) : Ev (fun k => zcM.f k (L a) (L b)) (L (a * b), 0) := by
 refine Ev.congr (fun k => ?_) (Ev.bind (f := fun _ x => some (x, (0 : Int))) (zmt ha hb hab) (Ev.now _))
 unfold zcM.f
 rw [zhB ha hb, Option.bind_some, if_pos rfl]
theorem zqF (n : Nat) (h : n < 18446744073709551616) : Ev (fun k => zbJ.f k (n : Int)) (L n) := by
 have h2 := zpm (n : Int) (Int.natCast_nonneg n) (by omega)
 have hb : big 2 n := by
  unfold big
  have : (4294967296 : Int) ^ 2 = 18446744073709551616 := by decide
  omega
 rw [zpv (zbt hb (by decide)) hb] at h2
 exact h2
theorem zpx : Ev (fun k => zbL.f k) (L 1) := by
 have h := zqF 1 (by decide)
 exact Ev.bind h (Ev.now _)
structure zjO (neg : Bool) (n d : Nat) : Prop where
 hn : big 16 n
 hd : big 16 d
 pos : 0 < d
 cop : Nat.gcd n d = 1
 sgn : n = 0 → neg = false
def zd4 (x : Bool) (y z : List Int) : Prop := (∃ n d, y = L n ∧ z = L d ∧ zjO x n d) ∨ (x = false ∧ y = [] ∧ z = [])
def zeo (r : Bool × List Int × List Int × Int) : Prop := (r.2.2.2 = 0 ∧ ∃ n d, r.2.1 = L n ∧ r.2.2.1 = L d ∧ zjO r.1 n d) ∨ (r.1 = false ∧ r.2.1 = [] ∧ r.2.2.1 = [] ∧ (r.2.2.2 = 2 ∨ r.2.2.2 = 20 ∨ r.2.2.2 = 21))
theorem zeo.st {r : Bool × List Int × List Int × Int} (h : zeo r) : zd4 r.1 r.2.1 r.2.2.1 := by
 rcases h with ⟨_, h⟩ | ⟨h1, h2, h3, _⟩
 ·exact .inl h
 ·exact .inr ⟨h1, h2, h3⟩
theorem zeo.ne4 {r : Bool × List Int × List Int × Int} (h : zeo r) : r.2.2.2 ≠ 4 := by
 rcases h with ⟨h, _⟩ | ⟨_, _, _, h⟩ <;> omega
theorem zeo.zmu {r : Bool × List Int × List Int × Int} (h : zeo r) : r.2.2.2 = 0 ∨ r.2.2.2 = 2 ∨ r.2.2.2 = 20 ∨ r.2.2.2 = 21 := by
 rcases h with ⟨h, _⟩ | ⟨_, _, _, h⟩ <;> omega
def zf4 (neg : Bool) (a b : Nat) : Bool × List Int × List Int × Int :=
 if (L (a / Nat.gcd a b)).length > 16 ∨ (L (b / Nat.gcd a b)).length > 16 then (false, [], [], 20) else (neg && decide (0 < a / Nat.gcd a b), L (a / Nat.gcd a b), L (b / Nat.gcd a b), 0)
theorem zgc (neg : Bool) (a b : Nat) (ha : big 64 a) (hb : big 64 b) (h0 : 0 < b) : zeo (zf4 neg a b) := by
 have hg : 0 < Nat.gcd a b := Nat.gcd_pos_of_pos_right _ h0
 unfold zf4
 split
 ·exact .inr ⟨rfl, rfl, rfl, .inr (.inl rfl)⟩
 ·rename_i h
  refine .inl ⟨rfl, _, _, rfl, rfl, ?_⟩
  have h1 := zcW ha (Nat.div_le_self a (Nat.gcd a b))
  have h2 := zcW hb (Nat.div_le_self b (Nat.gcd a b))
  refine ⟨zbt (zhe h1) (by omega), zbt (zhe h2) (by omega), Nat.div_pos (Nat.gcd_le_right _ h0) hg, Nat.coprime_div_gcd_div_gcd hg, fun e => ?_⟩
  rw [e]
  simp
theorem zeE (neg : Bool) (a b : Nat) (ha : big 64 a) (hb : big 64 b) (h0 : 0 < b) : Ev (fun k => zaL.f k neg (L a) (L b)) (zf4 neg a b) := by
 have hg : 0 < Nat.gcd a b := Nat.gcd_pos_of_pos_right _ h0
 have hgb : big 64 (Nat.gcd a b) := zcW hb (Nat.gcd_le_right _ h0)
 refine Ev.bind (zms ha hb) ⟨0, fun k _ => ?_⟩
 simp only [zqr ha hgb hg, zqr hb hgb hg, Option.bind_some, if_true]
 unfold zf4
 have hp := zjN (zcW ha (Nat.div_le_self a (Nat.gcd a b)))
 by_cases h1 : (L (a / Nat.gcd a b)).length > 16
 ·rw [if_pos (show ((L (a / Nat.gcd a b)).length : Int) > 16 by omega), if_pos (Or.inl h1)]
 ·by_cases h2 : (L (b / Nat.gcd a b)).length > 16
  ·rw [if_neg (show ¬ ((L (a / Nat.gcd a b)).length : Int) > 16 by omega), if_pos (show ((L (b / Nat.gcd a b)).length : Int) > 16 by omega), if_pos (Or.inr h2)]
  ·rw [if_neg (show ¬ ((L (a / Nat.gcd a b)).length : Int) > 16 by omega), if_neg (show ¬ ((L (b / Nat.gcd a b)).length : Int) > 16 by omega), if_neg (show ¬ ((L (a / Nat.gcd a b)).length > 16 ∨ (L (b / Nat.gcd a b)).length > 16) from fun h => h.elim h1 h2)]
   cases neg with
   | true => rw [if_pos rfl, Bool.true_and]; simp only [decide_eq_decide.2 hp]
   | false => rw [if_neg (show ¬ false = true by decide), Bool.false_and]
theorem zqt (neg : Bool) (a b : Nat) (ha : big 32 a) (hb : big 32 b) (h0 : 0 < b) : Ev (fun k => zbj.f k neg (L a) (L b)) (zf4 neg a b) := by
 have ha' := zbt ha (show 32 ≤ 64 by decide)
 have hb' := zbt hb (show 32 ≤ 64 by decide)
 have hl1 := zd3 ha' ha
 have hl2 := zd3 hb' hb
 have hp := (zjN hb').2 h0
 have h := zeE neg a b ha' hb' h0
 have h2 : Ev (fun k => zbj.j0 k neg (L a) (L b) false) (zf4 neg a b) := by
  refine Ev.step (fun k => ?_) (Ev.bind (f := fun _ bt4 => some (bt4.1, bt4.2.1, bt4.2.2.1, bt4.2.2.2)) h (Ev.now _))
  simp only [zbj.j0]
  rw [if_neg (by decide), if_neg (by omega)]
 refine Ev.congr (fun k => ?_) h2
 unfold zbj.f
 rw [zic ha', Option.bind_some, if_pos rfl, zic hb', Option.bind_some, if_pos rfl, decide_eq_false (by unfold mx; omega)]
theorem zqW : L 1 = [1] := by simp [L, lim]
theorem zmv : Ev (fun k => zal.f k (L 1) (L 1)) true := by
 rw [zqW]
 refine ⟨3, fun k hk => ?_⟩
 obtain ⟨m, rfl⟩ : ∃ m, k = m + 3 := ⟨k - 3, by omega⟩
 simp [zal.f, zal.l0, wrap64]
theorem Ev.eq {α : Type} {g : Nat → Option α} {a b : α} (h : Ev g a) (e : a = b) : Ev g b := e ▸ h
theorem zmw {neg : Bool} {n d : Nat} (h : zjO neg n d) : Ev (fun k => zaw.f k neg (L n) (L d)) 0 := by
 have hn := zbt h.hn (show 16 ≤ 64 by decide)
 have hd := zbt h.hd (show 16 ≤ 64 by decide)
 have l1 := zd3 hn h.hn
 have l2 := zd3 hd h.hd
 have hp := (zjN hd).2 h.pos
 have j2 : Ev (fun k => zaw.j2 k (L 1) false) 0 := by
  refine Ev.step (f := fun k => (zbL.f k).bind fun t6 => (zal.f k (L 1) t6).bind fun t9 => if t9 = true then some 0 else some 2) (fun k => ?_) (Ev.bind (f := fun k t6 => (zal.f k (L 1) t6).bind fun t9 => if t9 = true then some 0 else some 2) zpx (Ev.bind (f := fun _ t9 => if t9 = true then some 0 else some 2) zmv (Ev.now _)))
  simp only [zaw.j2]
  rw [if_neg (by decide)]
 have j1 : Ev (fun k => zaw.j1 k (L 1) false neg (L n) (L d)) 0 := by
  refine Ev.step (fun k => ?_) j2
  simp only [zaw.j1]
  rw [if_neg (by decide)]
  cases hg : neg with
  | false => rw [if_neg (by decide)]
  | true =>
   have hn0 : 0 < n := Nat.pos_of_ne_zero (fun e => by have := h.sgn e; rw [hg] at this; cases this)
   have := (zjN hn).2 hn0
   rw [if_pos rfl, beq_eq_false_iff_ne.2 (by omega)]
 have hgc := zms hn hd
 rw [h.cop] at hgc
 have j0 : Ev (fun k => zaw.j0 k false neg (L n) (L d)) 0 := by
  refine Ev.step (f := fun k => (zbf.f k (L n) (L d)).bind fun bt2 => if bt2.2 = 0 then zaw.j1 k bt2.1 (((L d).length : Int) == 0) neg (L n) (L d) else zaw.j1 k bt2.1 true neg (L n) (L d)) (fun k => ?_) (Ev.bind hgc ?_)
  ·simp only [zaw.j0]
   rw [if_neg (by decide)]
  ·simp only [if_true]
   rw [beq_eq_false_iff_ne.2 (by omega)]
   exact j1
 refine Ev.congr (fun k => ?_) j0
 unfold zaw.f
 rw [if_neg (by omega), decide_eq_false (by omega)]
theorem zjP : Ev (fun k => zaw.f k false ([] : List Int) ([] : List Int)) 2 := by
 have h0 : big 64 0 := zgJ 64 (by decide) (by decide)
 have hgc := zms h0 h0
 rw [zhA, Nat.gcd_zero_left, zhA] at hgc
 have j1 : Ev (fun k => zaw.j1 k ([] : List Int) true false ([] : List Int) ([] : List Int)) 2 := Ev.at1 (fun k => by simp [zaw.j1])
 have j0 : Ev (fun k => zaw.j0 k false false ([] : List Int) ([] : List Int)) 2 := by
  refine Ev.step (f := fun k => (zbf.f k ([] : List Int) ([] : List Int)).bind fun bt2 => if bt2.2 = 0 then zaw.j1 k bt2.1 ((([] : List Int).length : Int) == 0) false ([] : List Int) ([] : List Int) else zaw.j1 k bt2.1 true false ([] : List Int) ([] : List Int)) (fun k => ?_) (Ev.bind hgc ?_)
  ·simp only [zaw.j0]
   rw [if_neg (by decide)]
  ·exact j1
 refine Ev.congr (fun k => ?_) j0
 unfold zaw.f
 rfl
theorem ziO {x : Bool} {y z : List Int} (h : zd4 x y z) : (∃ n d, y = L n ∧ z = L d ∧ zjO x n d ∧ Ev (fun k => zaw.f k x y z) 0) ∨ (x = false ∧ y = [] ∧ z = [] ∧ Ev (fun k => zaw.f k x y z) 2) := by
 rcases h with ⟨n, d, rfl, rfl, h⟩ | ⟨rfl, rfl, rfl⟩
 ·exact .inl ⟨n, d, rfl, rfl, h, zmw h⟩
 ·exact .inr ⟨rfl, rfl, rfl, zjP⟩
theorem zid {x x' : Bool} {y z y' z' : List Int} (h : zd4 x y z) (h' : zd4 x' y' z') :
  (∃ n d n' d', y = L n ∧ z = L d ∧ zjO x n d ∧ y' = L n' ∧ z' = L d' ∧ zjO x' n' d' ∧ Ev (fun k => zbv.f k x y z x' y' z') 0) ∨ Ev (fun k => zbv.f k x y z x' y' z') 2 := by
 rcases ziO h with ⟨n, d, e1, e2, o, hc⟩ | ⟨_, _, _, hc⟩
 ·rcases ziO h' with ⟨n', d', e3, e4, o', hc'⟩ | ⟨_, _, _, hc'⟩
  ·refine .inl ⟨n, d, n', d', e1, e2, o, e3, e4, o', ?_⟩
   exact Ev.bind (f := fun k t3 => if t3 = 0 then (zaw.f k x' y' z').bind fun t4 => some t4 else some t3) hc (Ev.bind hc' (Ev.now _))
  ·exact .inr (Ev.bind (f := fun k t3 => if t3 = 0 then (zaw.f k x' y' z').bind fun t4 => some t4 else some t3) hc (Ev.bind hc' (Ev.now _)))
 ·exact .inr (Ev.bind (f := fun k t3 => if t3 = 0 then (zaw.f k x' y' z').bind fun t4 => some t4 else some t3) hc (Ev.now _))
theorem zcZ {a b : Nat} (ha : big 32 a) (hb : big 32 b) : Ev (fun k => zas.f k [L a, L b]) (L (a * b)) := by
 have ha' := zbt ha (show 32 ≤ 64 by decide)
 have hb' := zbt hb (show 32 ≤ 64 by decide)
 have hab : big 64 (a * b) := zbt (zd2 ha hb) (by decide)
 have s3 : Ev (fun k => zas.l0 k (L (a * b)) [L a, L b] 2 2) (L (a * b)) := Ev.at1 (fun k => by simp only [zas.l0]; rw [if_neg (by decide)])
 have s2 : Ev (fun k => zas.l0 k (L a) [L a, L b] 2 1) (L (a * b)) := by
  refine Ev.step (f := fun k => (zcM.f k (L a) (L b)).bind fun bt5 => if bt5.2 = 0 then zas.l0 k bt5.1 [L a, L b] 2 2 else some []) (fun k => ?_) ?_
  ·simp only [zas.l0]
   rw [if_pos (show (1 : Int) < 2 by decide), if_pos (show (0 : Int) ≤ 1 by decide), if_pos (show (1 : Int) < (([L a, L b] : List (List Int)).length : Int) by simp), show wrap64 (1 + 1) = 2 by unfold wrap64; omega]
   rfl
  ·exact Ev.bind (f := fun k (bt5 : List Int × Int) => if bt5.2 = 0 then zas.l0 k bt5.1 [L a, L b] 2 2 else some []) (zqs ha' hb' hab) (Ev.congr (fun k => if_pos rfl) s3)
 have s1 : Ev (fun k => zas.l0 k (L 1) [L a, L b] 2 0) (L (a * b)) := by
  have hm := zqs (zmo 64 (by decide)) ha' (by rw [Nat.one_mul]; exact ha')
  rw [Nat.one_mul] at hm
  refine Ev.step (f := fun k => (zcM.f k (L 1) (L a)).bind fun bt5 => if bt5.2 = 0 then zas.l0 k bt5.1 [L a, L b] 2 1 else some []) (fun k => ?_) ?_
  ·simp only [zas.l0]
   rw [if_pos (show (0 : Int) < 2 by decide), if_pos (show (0 : Int) ≤ 0 by decide), if_pos (show (0 : Int) < (([L a, L b] : List (List Int)).length : Int) by simp), show wrap64 (0 + 1) = 1 by unfold wrap64; omega]
   rfl
  ·exact Ev.bind (f := fun k (bt5 : List Int × Int) => if bt5.2 = 0 then zas.l0 k bt5.1 [L a, L b] 2 1 else some []) hm (Ev.congr (fun k => if_pos rfl) s2)
 exact Ev.bind (f := fun k t1 => zas.l0 k t1 [L a, L b] (([L a, L b] : List (List Int)).length : Int) 0) zpx s1
theorem zpy {a b : Nat} (ha : big 64 a) (hb : big 64 b) (h : b ≤ a) : Ev (fun k => za0.f k (L a) (L b)) (L (a - b)) := by
 have hl : (L b).length ≤ (L a).length := zd3 hb (zcW (zhe ha) h)
 have h2 := zkv (L a) (L b) (L_U a) (L_U b) hl (by have := zfD a; omega) (by rw [zjj ha, zjj hb]; omega)
 rw [zjj ha, zjj hb, show (a : Int) - (b : Int) = ((a - b : Nat) : Int) by omega, zpv (zcW ha (by omega)) (zcW (zhe ha) (by omega))] at h2
 exact h2
theorem zqu (an bn : Bool) {a b : Nat} (ha : big 33 a) (hb : big 33 b) : ∃ bt c, Ev (fun k => zch.f k an (L a) bn (L b)) bt ∧ bt.2 = L c ∧ big 64 c := by
 have ha' := zbt ha (show 33 ≤ 64 by decide)
 have hb' := zbt hb (show 33 ≤ 64 by decide)
 have hab : big 64 (a + b) := by
  have h1 : (4294967296 : Int) ^ 34 = 4294967296 ^ 33 * 4294967296 := Int.pow_succ _ _
  refine zbt (j := 34) ?_ (by decide)
  unfold big at *
  rw [h1]
  omega
 by_cases he : (an == bn) = true
 ·refine ⟨(an, L (a + b)), a + b, Ev.congr (fun k => ?_) (Ev.bind (f := fun _ t2 => some (an, t2)) (zmq ha' hb' hab) (Ev.now _)), rfl, hab⟩
  unfold zch.f zdu.f
  rw [if_pos he, zhB ha' hb', Option.bind_some, if_pos rfl, Option.bind_assoc]
  rfl
 ·have hc := zdk (L a) (L b) (by have := zfD a; omega) (by have := zfD b; omega) (L_U a) (zpu ha') (L_U b) (zpu hb')
  rw [zjj ha', zjj hb'] at hc
  have form : ∀ k, zch.f k an (L a) bn (L b) = (zaI.f k (L a) (L b)).bind fun t5 => if t5 < 0 then (zcq.f k (L b) (L a)).bind fun bt6 => some (bn, bt6.1) else (zcq.f k (L a) (L b)).bind fun bt10 => some (an, bt10.1) := fun k => by
   unfold zch.f zdb.f
   rw [if_neg he, zhB ha' hb', Option.bind_some, if_pos rfl, Option.bind_assoc]
   rfl
  have sub : ∀ (x y : Nat) (z : Bool), big 64 x → big 64 y → y ≤ x → Ev (fun k => (zcq.f k (L x) (L y)).bind fun bt => some (z, bt.1)) (z, L (x - y)) := fun x y z hx hy hle => by
   have hc2 := zdk (L x) (L y) (by have := zfD x; omega) (by have := zfD y; omega) (L_U x) (zpu hx) (L_U y) (zpu hy)
   rw [zjj hx, zjj hy] at hc2
   have hge : ¬ zgb (x : Int) (y : Int) < 0 := by
    have := zkw (a := (x : Int)) (b := (y : Int)) (by omega)
    omega
   refine Ev.congr (fun k => ?_) (Ev.bind (f := fun k t2 => (if t2 < 0 then some (([] : List Int), (9 : Int)) else (za0.f k (L x) (L y)).bind fun t3 => some (t3, 0)).bind fun bt => some (z, bt.1)) hc2 ?_)
   ·unfold zcq.f
    rw [zhB hx hy, Option.bind_some, if_pos rfl, Option.bind_assoc]
   ·simp only [if_neg hge]
    refine Ev.congr (fun k => ?_) (Ev.bind (f := fun _ t3 => some (z, t3)) (zpy hx hy hle) (Ev.now _))
    rw [Option.bind_assoc]
    rfl
  by_cases hlt : a < b
  ·refine ⟨(bn, L (b - a)), b - a, Ev.congr form (Ev.bind hc ?_), rfl, zcW hb' (by omega)⟩
   have hm : zgb (a : Int) (b : Int) < 0 := by unfold zgb; rw [if_pos (by omega)]; omega
   simp only [if_pos hm]
   exact sub b a bn hb' ha' (by omega)
  ·refine ⟨(an, L (a - b)), a - b, Ev.congr form (Ev.bind hc ?_), rfl, zcW ha' (by omega)⟩
   have hm : ¬ zgb (a : Int) (b : Int) < 0 := by
    have := zkw (a := (a : Int)) (b := (b : Int)) (by omega)
    omega
   simp only [if_neg hm]
   exact sub a b an ha' hb' (by omega)
theorem zgd (e : Int) (h : e = 2 ∨ e = 20 ∨ e = 21) : zeo (false, [], [], e) := .inr ⟨rfl, rfl, rfl, h⟩
theorem zmx {x x' : Bool} {y z y' z' : List Int} (h : zd4 x y z) (h' : zd4 x' y' z') : ∃ r, Ev (fun k => zdI.f k x y z x' y' z') r ∧ zeo r := by
 rcases zid h h' with ⟨n, d, n', d', rfl, rfl, o, rfl, rfl, o', hc⟩ | hc
 ·have m := fun {j : Nat} (h : big 16 j) => zbt h (show 16 ≤ 32 by decide)
  have b1 : big 64 (n * n') := zbt (zd2 o.hn o'.hn) (by decide)
  have b2 : big 64 (d * d') := zbt (zd2 o.hd o'.hd) (by decide)
  refine ⟨_, Ev.bind hc ?_, zgc (x != x') (n * n') (d * d') b1 b2 (Nat.mul_pos o.pos o'.pos)⟩
  simp only [if_true]
  exact Ev.bind (f := fun k t8 => (zas.f k [L d, L d']).bind fun t14 => (zaL.f k (x != x') t8 t14).bind fun bt17 => some (bt17.1, bt17.2.1, bt17.2.2.1, bt17.2.2.2)) (zcZ (m o.hn) (m o'.hn))
   (Ev.bind (f := fun k t14 => (zaL.f k (x != x') (L (n * n')) t14).bind fun bt17 => some (bt17.1, bt17.2.1, bt17.2.2.1, bt17.2.2.2)) (zcZ (m o.hd) (m o'.hd))
    (Ev.bind (f := fun _ bt17 => some (bt17.1, bt17.2.1, bt17.2.2.1, bt17.2.2.2)) (zeE (x != x') (n * n') (d * d') b1 b2 (Nat.mul_pos o.pos o'.pos)) (Ev.now _)))
 ·refine ⟨_, Ev.bind hc ?_, zgd 2 (.inl rfl)⟩
  exact Ev.now _
theorem zpz {x x' : Bool} {y z y' z' : List Int} (h : zd4 x y z) (h' : zd4 x' y' z') : ∃ r, Ev (fun k => zd0.f k x y z x' y' z') r ∧ zeo r := by
 rcases zid h h' with ⟨n, d, n', d', rfl, rfl, o, rfl, rfl, o', hc⟩ | hc
 ·have m := fun {j : Nat} (h : big 16 j) => zbt h (show 16 ≤ 32 by decide)
  have hn' := zbt o'.hn (show 16 ≤ 64 by decide)
  have b1 : big 64 (n * d') := zbt (zd2 o.hn o'.hd) (by decide)
  have b2 : big 64 (d * n') := zbt (zd2 o.hd o'.hn) (by decide)
  rcases Nat.eq_zero_or_pos n' with h0 | h0
  ·refine ⟨_, Ev.bind hc ?_, zgd 21 (.inr (.inr rfl))⟩
   have hz : ((L n').length : Int) = 0 := by rw [h0, zhA]; rfl
   simp only [if_true, if_pos hz]
   exact Ev.now _
  ·have hz := (zjN hn').2 h0
   refine ⟨_, Ev.bind hc ?_, zgc (x != x') (n * d') (d * n') b1 b2 (Nat.mul_pos o.pos h0)⟩
   simp only [if_true, if_neg (show ¬ ((L n').length : Int) = 0 by omega)]
   exact Ev.bind (f := fun k t8 => (zas.f k [L d, L n']).bind fun t14 => (zaL.f k (x != x') t8 t14).bind fun bt17 => some (bt17.1, bt17.2.1, bt17.2.2.1, bt17.2.2.2)) (zcZ (m o.hn) (m o'.hd))
    (Ev.bind (f := fun k t14 => (zaL.f k (x != x') (L (n * d')) t14).bind fun bt17 => some (bt17.1, bt17.2.1, bt17.2.2.1, bt17.2.2.2)) (zcZ (m o.hd) (m o'.hn))
     (Ev.bind (f := fun _ bt17 => some (bt17.1, bt17.2.1, bt17.2.2.1, bt17.2.2.2)) (zeE (x != x') (n * d') (d * n') b1 b2 (Nat.mul_pos o.pos h0)) (Ev.now _)))
 ·refine ⟨_, Ev.bind hc ?_, zgd 2 (.inl rfl)⟩
  exact Ev.now _
theorem zpA {x x' : Bool} {y z y' z' : List Int} (h : zd4 x y z) (h' : zd4 x' y' z') : ∃ r, Ev (fun k => zd1.f k x y z x' y' z') r ∧ zeo r := by
 rcases zid h h' with ⟨n, d, n', d', rfl, rfl, o, rfl, rfl, o', hc⟩ | hc
 ·have m := fun {j : Nat} (h : big 16 j) => zbt h (show 16 ≤ 32 by decide)
  have b1 : big 33 (n * d') := zbt (zd2 o.hn o'.hd) (by decide)
  have b2 : big 33 (n' * d) := zbt (zd2 o'.hn o.hd) (by decide)
  have b3 : big 64 (d * d') := zbt (zd2 o.hd o'.hd) (by decide)
  obtain ⟨bt, c, hs, hbt, hcb⟩ := zqu x x' b1 b2
  have hr : Ev (fun k => zaL.f k bt.1 bt.2 (L (d * d'))) (zf4 bt.1 c (d * d')) := by
   rw [hbt]
   exact zeE bt.1 c (d * d') hcb b3 (Nat.mul_pos o.pos o'.pos)
  have h5 : Ev (fun k => (zas.f k [L d, L d']).bind fun t24 => (zaL.f k bt.1 bt.2 t24).bind fun bt27 => some (bt27.1, bt27.2.1, bt27.2.2.1, bt27.2.2.2)) (zf4 bt.1 c (d * d')) :=
   Ev.bind (f := fun k t24 => (zaL.f k bt.1 bt.2 t24).bind fun bt27 => some (bt27.1, bt27.2.1, bt27.2.2.1, bt27.2.2.2)) (zcZ (m o.hd) (m o'.hd)) (Ev.bind (f := fun _ bt27 => some (bt27.1, bt27.2.1, bt27.2.2.1, bt27.2.2.2)) hr (Ev.now _))
  have h4 : Ev (fun k => (zch.f k x (L (n * d')) x' (L (n' * d))).bind fun bt17 => (zas.f k [L d, L d']).bind fun t24 => (zaL.f k bt17.1 bt17.2 t24).bind fun bt27 => some (bt27.1, bt27.2.1, bt27.2.2.1, bt27.2.2.2)) (zf4 bt.1 c (d * d')) :=
   Ev.bind (g := fun k => zch.f k x (L (n * d')) x' (L (n' * d))) (f := fun k (bt17 : Bool × List Int) => (zas.f k [L d, L d']).bind fun t24 => (zaL.f k bt17.1 bt17.2 t24).bind fun bt27 => some (bt27.1, bt27.2.1, bt27.2.2.1, bt27.2.2.2)) hs h5
  have h3 : Ev (fun k => (zas.f k [L n', L d]).bind fun t14 => (zch.f k x (L (n * d')) x' t14).bind fun bt17 => (zas.f k [L d, L d']).bind fun t24 => (zaL.f k bt17.1 bt17.2 t24).bind fun bt27 => some (bt27.1, bt27.2.1, bt27.2.2.1, bt27.2.2.2)) (zf4 bt.1 c (d * d')) :=
   Ev.bind (g := fun k => zas.f k [L n', L d]) (f := fun k (t14 : List Int) => (zch.f k x (L (n * d')) x' t14).bind fun bt17 => (zas.f k [L d, L d']).bind fun t24 => (zaL.f k bt17.1 bt17.2 t24).bind fun bt27 => some (bt27.1, bt27.2.1, bt27.2.2.1, bt27.2.2.2)) (zcZ (m o'.hn) (m o.hd)) h4
  have h2 : Ev (fun k => (zas.f k [L n, L d']).bind fun t8 => (zas.f k [L n', L d]).bind fun t14 => (zch.f k x t8 x' t14).bind fun bt17 => (zas.f k [L d, L d']).bind fun t24 => (zaL.f k bt17.1 bt17.2 t24).bind fun bt27 => some (bt27.1, bt27.2.1, bt27.2.2.1, bt27.2.2.2)) (zf4 bt.1 c (d * d')) :=
   Ev.bind (g := fun k => zas.f k [L n, L d']) (f := fun k (t8 : List Int) => (zas.f k [L n', L d]).bind fun t14 => (zch.f k x t8 x' t14).bind fun bt17 => (zas.f k [L d, L d']).bind fun t24 => (zaL.f k bt17.1 bt17.2 t24).bind fun bt27 => some (bt27.1, bt27.2.1, bt27.2.2.1, bt27.2.2.2)) (zcZ (m o.hn) (m o'.hd)) h3
  refine ⟨_, Ev.bind hc ?_, zgc bt.1 c (d * d') hcb b3 (Nat.mul_pos o.pos o'.pos)⟩
  simp only [if_true]
  exact h2
 ·refine ⟨_, Ev.bind hc ?_, zgd 2 (.inl rfl)⟩
  exact Ev.now _
theorem zky (n : Nat) (h : n < 9223372036854775808) : Ev (fun k => zeb.f k (n : Int)) (false, L n, L 1) ∧ zjO false n 1 := by
 constructor
 ·refine Ev.congr (fun k => ?_) (Ev.bind (f := fun k t8 => (zbL.f k).bind fun t11 => some (false, t8, t11)) (zqF n (by omega)) (Ev.bind (f := fun _ t11 => some (false, L n, t11)) zpx (Ev.now _)))
  unfold zeb.f
  rw [if_neg (by omega), zcg _ (by omega) (by omega), decide_eq_false (by omega)]
 ·refine ⟨?_, zmo 16 (by decide), by decide, Nat.gcd_one_right n, fun _ => rfl⟩
  refine zbt (j := 2) ?_ (by decide)
  unfold big
  have : (4294967296 : Int) ^ 2 = 18446744073709551616 := by decide
  omega
end Go.Proofs.YtioofhilohmfbaaGreatDoor.P
end
section
open Go Go.RowKit PrintWords
namespace Go.Proofs.YtioofhilohmfbaaGreatDoor.P
def zie (c : ByteArray) : Prop := c.size < 4294967281 ∧ c.data.toList.all (fun b => decide (b.toNat < 128)) = true
instance (c : ByteArray) : Decidable (zie c) := inferInstanceAs (Decidable (_ ∧ _))
theorem zie.at {c : ByteArray} (h : zie c) : ∀ (j : Nat) b, c.data.toList[j]? = some b → b.toNat < 128 := fun j b hj => by
 have := List.all_eq_true.1 h.2 b (List.mem_of_getElem? hj)
 simpa using this
def zbN.f (a0 a1 : ByteArray) : Option ByteArray := if a0.size ≤ 9223372036854775807 ∧ zie a1 then some ⟨(Lib.trimS a0.data.toList a1.data.toList).toArray⟩ else none
theorem zbN.calls (a0 a1 : ByteArray) (r : ByteArray) (w : World) (h : zbN.f a0 a1 = some r) :
  Calls Tryz.prog 16 #[.string a0, .string a1] w fun e w' => e = .returned (.string r) ∧ Below w.heap.size w w' := by
 unfold zbN.f at h
 by_cases hc : a0.size ≤ 9223372036854775807 ∧ zie a1
 case neg => rw [if_neg hc] at h; cases h
 rw [if_pos hc] at h
 injection h with h
 subst h
 exact Any.strings_Trim_laid (ρ := Tryz.zdV) Tryz.zjp (by kernel_rfl) a0 a1 w hc.1 hc.2.1 hc.2.at
def zc0.f (a0 a1 : ByteArray) : Option ByteArray := if a0.size ≤ 9223372036854775807 ∧ zie a1 then some ⟨(Lib.trimRightS a0.data.toList a1.data.toList).toArray⟩ else none
theorem zc0.calls (a0 a1 : ByteArray) (r : ByteArray) (w : World) (h : zc0.f a0 a1 = some r) :
  Calls Tryz.prog 13 #[.string a0, .string a1] w fun e w' => e = .returned (.string r) ∧ Below w.heap.size w w' := by
 unfold zc0.f at h
 by_cases hc : a0.size ≤ 9223372036854775807 ∧ zie a1
 case neg => rw [if_neg hc] at h; cases h
 rw [if_pos hc] at h
 injection h with h
 subst h
 exact Any.strings_TrimRight_laid (ρ := Tryz.zgo) Tryz.zoS (by kernel_rfl) a0 a1 w hc.1 hc.2.1 hc.2.at
def za1.f (a0 a1 : ByteArray) : Option ByteArray := if zie a1 then some ⟨(Lib.trimLeftS a0.data.toList a1.data.toList).toArray⟩ else none
theorem za1.calls (a0 a1 : ByteArray) (r : ByteArray) (w : World) (h : za1.f a0 a1 = some r) :
  Calls Tryz.prog 94 #[.string a0, .string a1] w fun e w' => e = .returned (.string r) ∧ Below w.heap.size w w' := by
 unfold za1.f at h
 by_cases hc : zie a1
 case neg => rw [if_neg hc] at h; cases h
 rw [if_pos hc] at h
 injection h with h
 subst h
 exact Any.strings_TrimLeft_laid (ρ := Tryz.zgn) Tryz.zoR (by kernel_rfl) a0 a1 w hc.1 hc.at
def strings_Contains.f (a0 a1 : ByteArray) : Option Bool := match a1.data.toList with
 | [c] => some (decide (0 ≤ Lib.indexByte a0.data.toList c))
 | _ => none
theorem strings_Contains.calls (a0 a1 : ByteArray) (r : Bool) (w : World) (h : strings_Contains.f a0 a1 = some r) :
  Calls Tryz.prog 134 #[.string a0, .string a1] w fun e w' => e = .returned (.bool r) ∧ Below w.heap.size w w' := by
 unfold strings_Contains.f at h
 split at h
 ·rename_i c hc
  injection h with h
  subst h
  have e1 : a1 = ⟨#[c]⟩ := by
   cases a1 with | mk d => cases d with | mk l => simp only at hc; rw [hc]
  rw [e1]
  refine (Tryz.strings_Contains_one a0 c w).mono ?_
  rintro e w' ⟨he, rfl⟩
  exact ⟨he, Below.refl _ _⟩
 ·cases h
end Go.Proofs.YtioofhilohmfbaaGreatDoor.P
end
section
open Go.RowKit PrintWords PrintLast PrintMore
namespace Go.Proofs.YtioofhilohmfbaaGreatDoor.P
attribute [local go_sem] za3 za4 zbh zbi zaT zaU za5 za6 zbn
theorem zeS (x : Int) : IntKind.u64.wrap (IntKind.u8.wrap x) = x % 256 := by rw [IntKind.wrap_u8, IntKind.wrap_u64]; omega
mutual
def zay.j0 : Nat → ByteArray → Option (List Int × Int)
 | 0, _ => none
 | k + 1, x0 => zay.l0 k x0 ([] : List Int) (x0.size : Int) 0
def zay.l0 : Nat → ByteArray → List Int → Int → Int → Option (List Int × Int)
 | 0, _, _, _, _ => none
 | k + 1, x0, x4, x29, x30 => if x30 < x29 then (if 0 ≤ x30 then (if x30 ≤ (wrap64 (x30 + 1)) then (if (wrap64 (x30 + 1)) ≤ (x0.size : Int) then ((strings_Contains.f (⟨#[48, 49, 50, 51, 52, 53, 54, 55, 56, 57]⟩ : ByteArray) (x0.extract (x30 : Int).toNat ((wrap64 (x30 + 1)) : Int).toNat)).bind fun t3 => (if t3 = true then ((zbJ.f k 10).bind fun t4 => ((zaG.f k x4 t4).bind fun t7 => (if x30 < (x0.size : Int) then ((zbJ.f k (((bt x0 x30) - 48) % 256)).bind fun t10 => ((zaD.f k t7 t10).bind fun t13 => (zay.l0 k x0 t13 x29 (wrap64 (x30 + 1))))) else (none)))) else (some (([] : List Int), 4)))) else (none)) else (none)) else (none)) else (some (x4, 0))
end
def zay.f (k : Nat) (a0 : ByteArray) : Option (List Int × Int) := if (a0.size : Int) > 600 then (some (([] : List Int), 5)) else (if a0.toList = ([] : List UInt8) then (some (([] : List Int), 4)) else (if (a0.size : Int) > 1 then (if 0 < (a0.size : Int) then (if (bt a0 0) = 48 then (some (([] : List Int), 4)) else ((zbN.f a0 (⟨#[48, 49, 50, 51, 52, 53, 54, 55, 56, 57]⟩ : ByteArray)).bind fun t1 => (if t1.toList = ([] : List UInt8) then (zay.j0 k a0) else (some (([] : List Int), 4))))) else (none)) else ((zbN.f a0 (⟨#[48, 49, 50, 51, 52, 53, 54, 55, 56, 57]⟩ : ByteArray)).bind fun t2 => (if t2.toList = ([] : List UInt8) then (zay.j0 k a0) else (some (([] : List Int), 4))))))
theorem zay.zbp : ∀ k, (∀ y0, LeO (zay.j0 k y0) (zay.j0 (k + 1) y0)) ∧ (∀ y0 y1 y2 y3, LeO (zay.l0 k y0 y1 y2 y3) (zay.l0 (k + 1) y0 y1 y2 y3))
 | 0 => ⟨fun _ r h => by simp [zay.j0] at h, fun _ _ _ _ r h => by simp [zay.l0] at h⟩
 | k + 1 => by
  obtain ⟨ih0, ih1⟩ := zay.zbp k
  refine ⟨?_, ?_⟩
  ·intro y0
   unfold zay.j0
   repeat' with_reducible first | exact ih0 _ | exact ih1 _ _ _ _ | exact zbJ.mono _ _ | exact zaD.mono _ _ _ | exact zaG.mono _ _ _ | exact LeO.refl _ | exact LeO.none _ | refine LeO.ite ?_ ?_ | refine LeO.bind ?_ (fun _ => ?_)
  ·intro y0 y1 y2 y3
   unfold zay.l0
   repeat' with_reducible first | exact ih0 _ | exact ih1 _ _ _ _ | exact zbJ.mono _ _ | exact zaD.mono _ _ _ | exact zaG.mono _ _ _ | exact LeO.refl _ | exact LeO.none _ | refine LeO.ite ?_ ?_ | refine LeO.bind ?_ (fun _ => ?_)
theorem zay.mono : ∀ a0 k, LeO (zay.f k a0) (zay.f (k + 1) a0) := by
 intro a0 k
 obtain ⟨ih0, ih1⟩ := zay.zbp k
 unfold zay.f
 repeat' with_reducible first | exact ih0 _ | exact ih1 _ _ _ _ | exact zbJ.mono _ _ | exact zaD.mono _ _ _ | exact zaG.mono _ _ _ | exact LeO.refl _ | exact LeO.none _ | refine LeO.ite ?_ ?_ | refine LeO.bind ?_ (fun _ => ?_)
def zay.T11 : Bool × List (List Nat × List Nat) := (true, [([], []), ([], []), ([0, 1, 1], [0, 1]), ([], []), ([], []), ([3, 4], [3, 4]), ([5], [5]), ([6], [6]), ([7, 2], [7]), ([2, 8, 8], [2, 8]), ([9, 9, 0, 1, 2, 3, 4, 5, 6, 7, 8, 9], [0, 9])])
def zay.B11 : List Nat := [0, 0, 3, 0, 0, 24, 56, 120, 255, 511, 1023]
theorem zay.zqX : zgD .any (opsOf Tryz.f95 11) = zay.T11 := by kernel_rfl
theorem zay.zqv : zeQ zay.T11.2 zay.B11 = true := by kernel_rfl
theorem zay.calls (k : Nat) (a0 : ByteArray) (r1 : List Int) (r2 : Int) (w : World) (h : zay.f k a0 = some (r1, r2)) :
  Calls Tryz.prog 95 #[.string a0] w fun e w' => ∃ v0_ : Value, e = .returned (.tuple #[v0_, .int .i64 r2]) ∧ Kd.V (Kd.int .u32) 109 w' w.heap.size (fun k_ => (w.heap.size ≤ k_)) v0_ r1 ∧ Below w.heap.size w w' := by
 have HB := zaa.mk (Below.refl w.heap.size w)
 have H : (if (a0.size : Int) > 600 then (some (([] : List Int), 5)) else (if a0.toList = ([] : List UInt8) then (some (([] : List Int), 4)) else (if (a0.size : Int) > 1 then (if 0 < (a0.size : Int) then (if (bt a0 0) = 48 then (some (([] : List Int), 4)) else ((zbN.f a0 (⟨#[48, 49, 50, 51, 52, 53, 54, 55, 56, 57]⟩ : ByteArray)).bind fun t1 => (if t1.toList = ([] : List UInt8) then (zay.j0 k a0) else (some (([] : List Int), 4))))) else (none)) else ((zbN.f a0 (⟨#[48, 49, 50, 51, 52, 53, 54, 55, 56, 57]⟩ : ByteArray)).bind fun t2 => (if t2.toList = ([] : List UInt8) then (zay.j0 k a0) else (some (([] : List Int), 4))))))) = some (r1, r2) := h
 clear h
 have HC2 := zaa.mk H
 clear H
 go_enter Tryz.func95, Tryz.ntmps95
 go_upto_block 0 with (fail)
 go_cut [] (fun wc => ∃ (kq : Nat), zaa (zay.j0 kq a0 = some (r1, r2)) ∧ zaa (kq ≤ k) ∧ zaa (Below w.heap.size w wc))
 case first =>
  have H := HC2.out
  clear HC2
  by_cases c3 : (a0.size : Int) > 600
  ·rw [if_pos c3] at H
   have c3b0 : decide (600 < (a0.size : Int)) = true := zDT c3
   have c3b1 : decide (600 < a0.size) = true := decide_eq_true (by omega)
   clear c3
   (first | rw [c3b0] | (simp only [zbs, zbR]; rw [c3b0]) | skip)
   simp only [Option.some.injEq, Prod.mk.injEq] at H
   obtain ⟨rfl, rfl⟩ := H
   go_wp2
   go_ret2
   exact ⟨_, by first | rfl | (simp [zaf, zag] <;> rfl) | (simp [*, zaf, zag] <;> rfl), (Kd.zcA _ _ _ _ _), lb⟩
  ·rw [if_neg c3] at H
   have c3b0 : decide (600 < (a0.size : Int)) = false := zDF c3
   have c3b1 : decide (600 < a0.size) = false := decide_eq_false (by omega)
   clear c3
   (first | rw [c3b0] | (simp only [zbs, zbR]; rw [c3b0]) | skip)
   by_cases c4 : a0.toList = ([] : List UInt8)
   ·rw [if_pos c4] at H
    have c4b0 : (a0.toList == ([] : List UInt8)) = true := beq_iff_eq.mpr c4
    have c4b1 : (a0.toList != ([] : List UInt8)) = false := bne_eq_false_iff_eq.mpr c4
    clear c4
    simp only [Option.some.injEq, Prod.mk.injEq] at H
    obtain ⟨rfl, rfl⟩ := H
    go_wp2
    go_ret2
    exact ⟨_, by first | rfl | (simp [zaf, zag] <;> rfl) | (simp [*, zaf, zag] <;> rfl), (Kd.zcA _ _ _ _ _), lb⟩
   ·rw [if_neg c4] at H
    have c4b0 : (a0.toList == ([] : List UInt8)) = false := beq_eq_false_iff_ne.mpr c4
    have c4b1 : (a0.toList != ([] : List UInt8)) = true := bne_iff_ne.mpr c4
    by_cases c5 : (a0.size : Int) > 1
    ·rw [if_pos c5] at H
     have c5b0 : decide (1 < (a0.size : Int)) = true := zDT c5
     have c5b1 : decide (1 < a0.size) = true := decide_eq_true (by omega)
     clear c5
     by_cases c6 : 0 < (a0.size : Int)
     ·rw [if_pos c6] at H
      have c6b0 : decide (0 < (a0.size : Int)) = true := zDT c6
      have c6b1 : decide (0 < a0.size) = true := decide_eq_true (by omega)
      clear c6
      by_cases c8 : (bt a0 0) = 48
      ·rw [if_pos c8] at H
       have c8b0 : ((bt a0 0) == 48) = true := beq_iff_eq.mpr c8
       have c8b1 : ((bt a0 0) != 48) = false := bne_eq_false_iff_eq.mpr c8
       clear c8
       simp only [Option.some.injEq, Prod.mk.injEq] at H
       obtain ⟨rfl, rfl⟩ := H
       have p7 : 0 ≤ (0 : Int) := (by omega)
       have q7 : 0 < a0.size := (by have : (0 : Int) < (a0.size : Int) := zDO (by first | (with_reducible assumption) | assumption); omega)
       have hx7 : ∀ h : 0 < a0.size, ((a0[0]'h).toNat : Int) = bt a0 0 := zdE a0 0
       clear p7
       have qi7 : (0 < (a0.size : Int)) = True := eq_true (zDO (by first | (with_reducible assumption) | assumption))
       replace q7 := eq_true q7
       go_wp2
       go_ret2
       exact ⟨_, by first | rfl | (simp [zaf, zag] <;> rfl) | (simp [*, zaf, zag] <;> rfl), (Kd.zcA _ _ _ _ _), lb⟩
      ·rw [if_neg c8] at H
       have c8b0 : ((bt a0 0) == 48) = false := beq_eq_false_iff_ne.mpr c8
       have c8b1 : ((bt a0 0) != 48) = true := bne_iff_ne.mpr c8
       replace H := zBE H
       obtain ⟨t1, A90, H⟩ := H
       replace H : (if t1.toList = ([] : List UInt8) then (zay.j0 k a0) else (some (([] : List Int), 4))) = some (r1, r2) := H
       have A9 := zaa.mk A90
       clear A90
       by_cases c10 : t1.toList = ([] : List UInt8)
       ·rw [if_pos c10] at H
        have c10b0 : (t1.toList == ([] : List UInt8)) = true := beq_iff_eq.mpr c10
        have c10b1 : (t1.toList != ([] : List UInt8)) = false := bne_eq_false_iff_eq.mpr c10
        clear c10
        have H' := zaa.mk H
        clear H
        have p7 : 0 ≤ (0 : Int) := (by omega)
        have q7 : 0 < a0.size := (by have : (0 : Int) < (a0.size : Int) := zDO (by first | (with_reducible assumption) | assumption); omega)
        have hx7 : ∀ h : 0 < a0.size, ((a0[0]'h).toNat : Int) = bt a0 0 := zdE a0 0
        clear p7
        have qi7 : (0 < (a0.size : Int)) = True := eq_true (zDO (by first | (with_reducible assumption) | assumption))
        replace q7 := eq_true q7
        go_wp2_with (first | (go_at_call 16; (with_reducible refine (zbN.calls a0 (⟨#[48, 49, 50, 51, 52, 53, 54, 55, 56, 57]⟩ : ByteArray) t1 _ A9.out).mono ?_); rintro e w11 ⟨rfl, hb⟩; have n0_ := zaa.mk (zab (lc HB.out) hb); clear HB; have HB := n0_; clear n0_; (try clear hb); (try clear hb2); (try clear hk); (try clear hi)))
        go_meet
        case rel => exact ⟨_, H', ⟨by first | omega | exact Nat.le_refl _⟩, ⟨lb⟩⟩
       ·rw [if_neg c10] at H
        have c10b0 : (t1.toList == ([] : List UInt8)) = false := beq_eq_false_iff_ne.mpr c10
        have c10b1 : (t1.toList != ([] : List UInt8)) = true := bne_iff_ne.mpr c10
        simp only [Option.some.injEq, Prod.mk.injEq] at H
        obtain ⟨rfl, rfl⟩ := H
        have p7 : 0 ≤ (0 : Int) := (by omega)
        have q7 : 0 < a0.size := (by have : (0 : Int) < (a0.size : Int) := zDO (by first | (with_reducible assumption) | assumption); omega)
        have hx7 : ∀ h : 0 < a0.size, ((a0[0]'h).toNat : Int) = bt a0 0 := zdE a0 0
        clear p7
        have qi7 : (0 < (a0.size : Int)) = True := eq_true (zDO (by first | (with_reducible assumption) | assumption))
        replace q7 := eq_true q7
        go_wp2_with (first | (go_at_call 16; (with_reducible refine (zbN.calls a0 (⟨#[48, 49, 50, 51, 52, 53, 54, 55, 56, 57]⟩ : ByteArray) t1 _ A9.out).mono ?_); rintro e w12 ⟨rfl, hb⟩; have n0_ := zaa.mk (zab (lc HB.out) hb); clear HB; have HB := n0_; clear n0_; (try clear hb); (try clear hb2); (try clear hk); (try clear hi)))
        go_ret2
        exact ⟨_, by first | rfl | (simp [zaf, zag] <;> rfl) | (simp [*, zaf, zag] <;> rfl), (Kd.zcA _ _ _ _ _), lb⟩
     ·rw [if_neg c6] at H
      exact absurd H (by simp)
    ·rw [if_neg c5] at H
     have c5b0 : decide (1 < (a0.size : Int)) = false := zDF c5
     have c5b1 : decide (1 < a0.size) = false := decide_eq_false (by omega)
     clear c5
     replace H := zBE H
     obtain ⟨t2, A130, H⟩ := H
     replace H : (if t2.toList = ([] : List UInt8) then (zay.j0 k a0) else (some (([] : List Int), 4))) = some (r1, r2) := H
     have A13 := zaa.mk A130
     clear A130
     by_cases c14 : t2.toList = ([] : List UInt8)
     ·rw [if_pos c14] at H
      have c14b0 : (t2.toList == ([] : List UInt8)) = true := beq_iff_eq.mpr c14
      have c14b1 : (t2.toList != ([] : List UInt8)) = false := bne_eq_false_iff_eq.mpr c14
      clear c14
      have H' := zaa.mk H
      clear H
      go_wp2_with (first | (go_at_call 16; (with_reducible refine (zbN.calls a0 (⟨#[48, 49, 50, 51, 52, 53, 54, 55, 56, 57]⟩ : ByteArray) t2 _ A13.out).mono ?_); rintro e w15 ⟨rfl, hb⟩; have n0_ := zaa.mk (zab (lc HB.out) hb); clear HB; have HB := n0_; clear n0_; (try clear hb); (try clear hb2); (try clear hk); (try clear hi)))
      go_meet
      case rel => exact ⟨_, H', ⟨by first | omega | exact Nat.le_refl _⟩, ⟨lb⟩⟩
     ·rw [if_neg c14] at H
      have c14b0 : (t2.toList == ([] : List UInt8)) = false := beq_eq_false_iff_ne.mpr c14
      have c14b1 : (t2.toList != ([] : List UInt8)) = true := bne_iff_ne.mpr c14
      simp only [Option.some.injEq, Prod.mk.injEq] at H
      obtain ⟨rfl, rfl⟩ := H
      go_wp2_with (first | (go_at_call 16; (with_reducible refine (zbN.calls a0 (⟨#[48, 49, 50, 51, 52, 53, 54, 55, 56, 57]⟩ : ByteArray) t2 _ A13.out).mono ?_); rintro e w16 ⟨rfl, hb⟩; have n0_ := zaa.mk (zab (lc HB.out) hb); clear HB; have HB := n0_; clear n0_; (try clear hb); (try clear hb2); (try clear hk); (try clear hi)))
      go_ret2
      exact ⟨_, by first | rfl | (simp [zaf, zag] <;> rfl) | (simp [*, zaf, zag] <;> rfl), (Kd.zcA _ _ _ _ _), lb⟩
 case rest =>
  clear HC2
  try clear c1
  try clear p2
  try clear c3
  try clear c3b0
  try clear c3b1
  try clear c4
  try clear c4b0
  try clear c4b1
  try clear c5
  try clear c5b0
  try clear c5b1
  try clear c6
  try clear c6b0
  try clear c6b1
  try clear p7
  try clear q7
  try clear hx7
  try clear qi7
  try clear c8
  try clear c8b0
  try clear c8b1
  try clear c9
  try clear c10
  try clear c10b0
  try clear c10b1
  try clear c14
  try clear c14b0
  try clear c14b1
  try clear p7
  try clear q7
  obtain ⟨kq, HA, HJ1, HB⟩ := hcut
  cases kq with
  | zero => exact absurd HA.out (by simp [zay.j0])
  | succ kj1 =>
   have H := HA.out
   clear HA
   simp only [zay.j0] at H
   have H' := zaa.mk H
   clear H
   go_wp2
   go_loopg [4, 30] kj1 (fun kq v4 v30 w' => ∃ (x4_2 : List Int) (x30_2 : Int), v30 = .int .i64 x30_2 ∧ zaa (zay.l0 kq a0 x4_2 (a0.size : Int) x30_2 = some (r1, r2)) ∧ zaa (kq ≤ kj1) ∧ zaa (Kd.V (Kd.int .u32) 109 w' w.heap.size (fun k_ => (w.heap.size ≤ k_)) v4 x4_2) ∧ zaa (Below w.heap.size w w'))
   case atStart => exact ⟨(([] : List Int)), (0), rs, H', ⟨Nat.le_refl _⟩, ⟨(Kd.zcA _ _ _ _ _)⟩, ⟨lb⟩⟩
   case round =>
    clear H'
    try clear c1
    try clear p2
    try clear c3
    try clear c3b0
    try clear c3b1
    try clear c4
    try clear c4b0
    try clear c4b1
    try clear c5
    try clear c5b0
    try clear c5b1
    try clear c6
    try clear c6b0
    try clear c6b1
    try clear p7
    try clear q7
    try clear hx7
    try clear qi7
    try clear c8
    try clear c8b0
    try clear c8b1
    try clear c9
    try clear c10
    try clear c10b0
    try clear c10b1
    try clear c14
    try clear c14b0
    try clear c14b1
    try clear p2
    try clear p7
    try clear q7
    obtain ⟨x4_2, x30_2, rfl, HA, HK2, HO_4, HB⟩ := hrel
    cases gk with
    | zero => exact absurd HA.out (by simp [zay.l0])
    | succ k2 =>
     have H := HA.out
     clear HA
     simp only [zay.l0] at H
     by_cases c17 : x30_2 < (a0.size : Int)
     ·rw [if_pos c17] at H
      have c17b0 : decide (x30_2 < (a0.size : Int)) = true := zDT c17
      clear c17
      by_cases c18 : 0 ≤ x30_2
      ·rw [if_pos c18] at H
       have c18b0 := eq_true c18
       have c18b1 : decide (0 ≤ x30_2) = true := zDT c18
       clear c18
       by_cases c19 : x30_2 ≤ (wrap64 (x30_2 + 1))
       ·rw [if_pos c19] at H
        have c19b0 := eq_true c19
        have c19b1 : decide (x30_2 ≤ (wrap64 (x30_2 + 1))) = true := zDT c19
        by_cases c20 : (wrap64 (x30_2 + 1)) ≤ (a0.size : Int)
        ·rw [if_pos c20] at H
         have c20b0 := eq_true c20
         have c20b1 : decide ((wrap64 (x30_2 + 1)) ≤ (a0.size : Int)) = true := zDT c20
         replace H := zBE H
         obtain ⟨t3, A210, H⟩ := H
         replace H : (if t3 = true then ((zbJ.f k2 10).bind fun t4 => ((zaG.f k2 x4_2 t4).bind fun t7 => (if x30_2 < (a0.size : Int) then ((zbJ.f k2 (((bt a0 x30_2) - 48) % 256)).bind fun t10 => ((zaD.f k2 t7 t10).bind fun t13 => (zay.l0 k2 a0 t13 (a0.size : Int) (wrap64 (x30_2 + 1))))) else (none)))) else (some (([] : List Int), 4))) = some (r1, r2) := H
         have A21 := zaa.mk A210
         clear A210
         by_cases c22 : t3 = true
         ·subst c22
          have H1 : ((zbJ.f k2 10).bind fun t4 => ((zaG.f k2 x4_2 t4).bind fun t7 => (if x30_2 < (a0.size : Int) then ((zbJ.f k2 (((bt a0 x30_2) - 48) % 256)).bind fun t10 => ((zaD.f k2 t7 t10).bind fun t13 => (zay.l0 k2 a0 t13 (a0.size : Int) (wrap64 (x30_2 + 1))))) else (none)))) = some (r1, r2) := by rw [if_pos rfl] at H; exact H
          clear H
          have H := H1
          clear H1
          replace H := zBE H
          obtain ⟨t4, A230, H⟩ := H
          replace H : ((zaG.f k2 x4_2 t4).bind fun t7 => (if x30_2 < (a0.size : Int) then ((zbJ.f k2 (((bt a0 x30_2) - 48) % 256)).bind fun t10 => ((zaD.f k2 t7 t10).bind fun t13 => (zay.l0 k2 a0 t13 (a0.size : Int) (wrap64 (x30_2 + 1))))) else (none))) = some (r1, r2) := H
          have A23 := zaa.mk A230
          clear A230
          replace H := zBE H
          obtain ⟨t7, A240, H⟩ := H
          replace H : (if x30_2 < (a0.size : Int) then ((zbJ.f k2 (((bt a0 x30_2) - 48) % 256)).bind fun t10 => ((zaD.f k2 t7 t10).bind fun t13 => (zay.l0 k2 a0 t13 (a0.size : Int) (wrap64 (x30_2 + 1))))) else (none)) = some (r1, r2) := H
          have A24 := zaa.mk A240
          clear A240
          by_cases c25 : x30_2 < (a0.size : Int)
          ·rw [if_pos c25] at H
           have c25b0 : decide (x30_2 < (a0.size : Int)) = true := zDT c25
           clear c25
           replace H := zBE H
           obtain ⟨t10, A270, H⟩ := H
           replace H : ((zaD.f k2 t7 t10).bind fun t13 => (zay.l0 k2 a0 t13 (a0.size : Int) (wrap64 (x30_2 + 1)))) = some (r1, r2) := H
           have A27 := zaa.mk A270
           clear A270
           replace H := zBE H
           obtain ⟨t13, A280, H⟩ := H
           replace H : (zay.l0 k2 a0 t13 (a0.size : Int) (wrap64 (x30_2 + 1))) = some (r1, r2) := H
           have A28 := zaa.mk A280
           clear A280
           have H' := zaa.mk H
           clear H
           try go_wp2_with (first | (go_at_call 134; (with_reducible refine (strings_Contains.calls (⟨#[48, 49, 50, 51, 52, 53, 54, 55, 56, 57]⟩ : ByteArray) (a0.extract (x30_2 : Int).toNat ((wrap64 (x30_2 + 1)) : Int).toNat) true _ A21.out).mono ?_); rintro e w29 ⟨rfl, hb⟩; have n0_ := zaa.mk (Kd.zaW (vc HO_4.out) hb); have n1_ := zaa.mk (zab (lc HB.out) hb); clear HO_4; clear HB; have HO_4 := n0_; have HB := n1_; clear n0_ n1_; (try clear hb); (try clear hb2); (try clear hk); (try clear hi)))
           have n0_ := zaa.mk (Kd.zbI HO_4.out)
           have n1_ := zaa.mk (zav HB.out)
           clear HO_4
           clear HB
           have HO_4 := n0_
           have HB := n1_
           clear n0_ n1_
           have p26 : 0 ≤ (x30_2 : Int) := zDO (by first | (with_reducible assumption) | assumption)
           have q26 : x30_2 < (a0.size : Int) := zDO (by first | (with_reducible assumption) | assumption)
           have hx26 := zdE a0 x30_2
           replace p26 := eq_true p26
           replace q26 := eq_true q26
           refine zl1 (n := 11) (S := fun w' => True) (ds := []) #[false, false, false, false, false, false, false, false, false, false, false] (by kernel_rfl) rfl rfl trivial (fun hHeld => ?_); refine zgF zay.zqX zay.zqv (fun HT_ HW_ => ?_)
           generalize w29.drew = w30 at HO_4 HB hHeld ⊢
           refine zcK (i := 0) (N := some 40) (v := ?_) (a' := ?_) #[true, false, false, false, false, false, false, false, false, false, false] rfl rfl (zb8 HT_.out (by kernel_rfl)) (fun _ _ _ h => h) (Or.inl ⟨by rfl, ?_⟩) ?_ ?_
           rotate_left
           ·intro w'
            go_simp
            with_reducible rfl
           rotate_left
           ·simp only [Act.put, List.setIfInBounds_toArray, List.set_cons_zero, List.set_cons_succ, zbs, zbR]
            rfl
           refine zcK (i := 3) (N := some 43) (v := ?_) (a' := ?_) #[true, false, false, true, false, false, false, false, false, false, false] rfl rfl (zb8 HT_.out (by kernel_rfl)) (fun _ _ _ h => h) (Or.inl ⟨by rfl, ?_⟩) ?_ ?_
           rotate_left
           ·intro w'
            go_simp
            with_reducible rfl
           rotate_left
           ·simp only [Act.put, List.setIfInBounds_toArray, List.set_cons_zero, List.set_cons_succ, zbs, zbR]
            rfl
           refine zcK (i := 4) (N := some 44) (v := ?_) (a' := ?_) #[true, false, false, true, true, false, false, false, false, false, false] rfl rfl (zb8 HT_.out (by kernel_rfl)) (fun _ _ _ h => h) (Or.inl ⟨by rfl, ?_⟩) ?_ ?_
           rotate_left
           ·intro w'
            go_simp
            with_reducible rfl
           rotate_left
           ·simp only [Act.put, List.setIfInBounds_toArray, List.set_cons_zero, List.set_cons_succ, zbs, zbR]
            rfl
           refine zit (i := 5) (N := some 45) (v := ?_) (a' := ?_) #[true, false, false, true, true, true, false, false, false, false, false] rfl rfl (zeA HT_.out HW_.out (by kernel_rfl)) (fun _ _ _ h => h) (Or.inl ⟨by rfl, ?_⟩) hHeld ?_ ?_
           rotate_left
           ·intro w' _
            go_simp
            with_reducible rfl
           rotate_left
           ·simp only [Act.put, List.setIfInBounds_toArray, List.set_cons_zero, List.set_cons_succ, zbs, zbR]
            rfl
           refine zcK (i := 6) (N := some 46) (v := ?_) (a' := ?_) #[true, false, false, true, true, true, true, false, false, false, false] rfl rfl (zb8 HT_.out (by kernel_rfl)) (fun _ _ _ h => h) (Or.inl ⟨by rfl, ?_⟩) ?_ ?_
           rotate_left
           ·intro w'
            go_simp
            with_reducible rfl
           rotate_left
           ·simp only [Act.put, List.setIfInBounds_toArray, List.set_cons_zero, List.set_cons_succ, zbs, zbR]
            rfl
           refine zcK (i := 7) (N := some 47) (v := ?_) (a' := ?_) #[true, false, false, true, true, true, true, true, false, false, false] rfl rfl (zb8 HT_.out (by kernel_rfl)) (fun _ _ _ h => h) (Or.inl ⟨by rfl, ?_⟩) ?_ ?_
           rotate_left
           ·intro w'
            go_simp
            with_reducible rfl
           rotate_left
           ·simp only [Act.put, List.setIfInBounds_toArray, List.set_cons_zero, List.set_cons_succ, zbs, zbR]
            rfl
           refine znt (i := 1) (N := some 41) #[true, true, false, true, true, true, true, true, false, false, false] rfl rfl (zfc HT_.out (by kernel_rfl)) (by decide) (fun K hK => ?_)
           refine znu Tryz.func137 (by kernel_rfl) rfl #[.int .u64 10] (by rfl) rfl rfl (by (try simp only [List.map_toArray, List.map_cons, List.map_nil]); first | done | rfl | (simp only [List.length_drop, List.length_take]; rfl)) ?_
           with_reducible refine (zbJ.calls k2 10 t4 _ A23.out).mono ?_
           rintro e w31 ⟨v5, rfl, ho0, hb⟩
           refine ⟨_, rfl, ?_⟩
           have n0_ := zaa.mk (Kd.zaW (vc HO_4.out) hb)
           have n1_ := zaa.mk (Kd.zbU (Kd.zbH (ok' := fun k_ => (w.heap.size ≤ k_)) ho0 (fun k_ hk_ => (Nat.le_trans (zad (lc HB.out)) hk_))) (zad (lc HB.out)))
           have n2_ := zaa.mk (zab (lc HB.out) hb)
           clear HO_4
           clear HB
           have HO_4 := n0_
           have HO6 := n1_
           have HB := n2_
           clear n0_ n1_ n2_
           (try clear hb)
           (try clear hb2)
           (try clear hk)
           (try clear hi)
           (try clear ho0)
           obtain ⟨Ao32, co32, eo32⟩ := Kd.zbe HO_4.out
           (first | subst eo32 | (injection eo32 with f1_ f2_ f3_; have f4_ := f1_.symm; have f5_ := f3_.symm; clear f1_ f2_ f3_; subst f4_; subst f5_))
           obtain ⟨Ao33, co33, eo33⟩ := Kd.zbe HO6.out
           (first | subst eo33 | (injection eo33 with f1_ f2_ f3_; have f4_ := f1_.symm; have f5_ := f3_.symm; clear f1_ f2_ f3_; subst f4_; subst f5_))
           refine hK.out _ _ trivial (fun hHeld => ?_)
           clear hK K
           refine ziC (a' := ?_) ?_ ?_
           rotate_left
           ·show Act.put _ (some 41) _ = _
            simp only [Act.put, List.setIfInBounds_toArray, List.set_cons_zero, List.set_cons_succ, zbs, zbR]
            rfl
           refine znt (i := 2) (N := some 42) #[true, true, true, true, true, true, true, true, false, false, false] rfl rfl (zfc HT_.out (by kernel_rfl)) (by decide) (fun K hK => ?_)
           refine znu Tryz.func136 (by kernel_rfl) rfl #[.slice Ao32 x4_2.length co32, .slice Ao33 t4.length co33] (by rfl) rfl rfl (by (try simp only [List.map_toArray, List.map_cons, List.map_nil]); first | done | rfl | (simp only [List.length_drop, List.length_take]; rfl)) ?_
           with_reducible refine (zaG.calls k2 _ _ x4_2 _ _ t4 t7 _ ?side1 ?side2 ?side3 ?side4 A24.out).mono ?_
           (case side1 => exact cc (Kd.zaq HO_4.out).2.2)
           (case side2 => exact (Kd.zaq HO_4.out).2.1)
           (case side3 => exact cc (Kd.zaq HO6.out).2.2)
           (case side4 => exact (Kd.zaq HO6.out).2.1)
           rintro e w34 ⟨v8, rfl, ho0, hb⟩
           refine ⟨_, rfl, ?_⟩
           have n0_ := zaa.mk (Kd.zaW (vc HO_4.out) hb)
           have n1_ := zaa.mk (Kd.zaW (vc HO6.out) hb)
           have n2_ := zaa.mk (Kd.zbU (Kd.zbH (ok' := fun k_ => (w.heap.size ≤ k_)) ho0 (fun k_ hk_ => (Nat.le_trans (zad (lc HB.out)) hk_))) (zad (lc HB.out)))
           have n3_ := zaa.mk (zab (lc HB.out) hb)
           clear HO_4
           clear HO6
           clear HB
           have HO_4 := n0_
           have HO6 := n1_
           have HO9 := n2_
           have HB := n3_
           clear n0_ n1_ n2_ n3_
           (try clear hb)
           (try clear hb2)
           (try clear hk)
           (try clear hi)
           (try clear ho0)
           refine hK.out _ _ trivial (fun hHeld => ?_)
           clear hK K
           refine ziC (a' := ?_) ?_ ?_
           rotate_left
           ·show Act.put _ (some 42) _ = _
            simp only [Act.put, List.setIfInBounds_toArray, List.set_cons_zero, List.set_cons_succ, zbs, zbR]
            rfl
           refine znt (i := 8) (N := some 48) #[true, true, true, true, true, true, true, true, true, false, false] rfl rfl (zfc HT_.out (by kernel_rfl)) (by decide) (fun K hK => ?_)
           refine znu Tryz.func137 (by kernel_rfl) rfl #[.int .u64 (((bt a0 x30_2) - 48) % 256)] (by rfl) rfl rfl (by (try simp only [List.map_toArray, List.map_cons, List.map_nil]); first | done | rfl | (rw [← zeS]; rfl) | (simp only [List.length_drop, List.length_take]; rfl)) ?_
           with_reducible refine (zbJ.calls k2 (((bt a0 x30_2) - 48) % 256) t10 _ A27.out).mono ?_
           rintro e w35 ⟨v11, rfl, ho0, hb⟩
           refine ⟨_, rfl, ?_⟩
           have n0_ := zaa.mk (Kd.zaW (vc HO_4.out) hb)
           have n1_ := zaa.mk (Kd.zaW (vc HO6.out) hb)
           have n2_ := zaa.mk (Kd.zaW (vc HO9.out) hb)
           have n3_ := zaa.mk (Kd.zbU (Kd.zbH (ok' := fun k_ => (w.heap.size ≤ k_)) ho0 (fun k_ hk_ => (Nat.le_trans (zad (lc HB.out)) hk_))) (zad (lc HB.out)))
           have n4_ := zaa.mk (zab (lc HB.out) hb)
           clear HO_4
           clear HO6
           clear HO9
           clear HB
           have HO_4 := n0_
           have HO6 := n1_
           have HO9 := n2_
           have HO12 := n3_
           have HB := n4_
           clear n0_ n1_ n2_ n3_ n4_
           (try clear hb)
           (try clear hb2)
           (try clear hk)
           (try clear hi)
           (try clear ho0)
           obtain ⟨Ao36, co36, eo36⟩ := Kd.zbe HO9.out
           (first | subst eo36 | (injection eo36 with f1_ f2_ f3_; have f4_ := f1_.symm; have f5_ := f3_.symm; clear f1_ f2_ f3_; subst f4_; subst f5_))
           obtain ⟨Ao37, co37, eo37⟩ := Kd.zbe HO12.out
           (first | subst eo37 | (injection eo37 with f1_ f2_ f3_; have f4_ := f1_.symm; have f5_ := f3_.symm; clear f1_ f2_ f3_; subst f4_; subst f5_))
           refine hK.out _ _ trivial (fun hHeld => ?_)
           clear hK K
           refine ziC (a' := ?_) ?_ ?_
           rotate_left
           ·show Act.put _ (some 48) _ = _
            simp only [Act.put, List.setIfInBounds_toArray, List.set_cons_zero, List.set_cons_succ, zbs, zbR]
            rfl
           refine znt (i := 9) (N := some 49) #[true, true, true, true, true, true, true, true, true, true, false] rfl rfl (zfc HT_.out (by kernel_rfl)) (by decide) (fun K hK => ?_)
           refine znu Tryz.func135 (by kernel_rfl) rfl #[.slice Ao36 t7.length co36, .slice Ao37 t10.length co37] (by rfl) rfl rfl (by (try simp only [List.map_toArray, List.map_cons, List.map_nil]); first | done | rfl | (simp only [List.length_drop, List.length_take]; rfl)) ?_
           with_reducible refine (zaD.calls k2 _ _ t7 _ _ t10 t13 _ ?side1 ?side2 ?side3 ?side4 A28.out).mono ?_
           (case side1 => exact cc (Kd.zaq HO9.out).2.2)
           (case side2 => exact (Kd.zaq HO9.out).2.1)
           (case side3 => exact cc (Kd.zaq HO12.out).2.2)
           (case side4 => exact (Kd.zaq HO12.out).2.1)
           rintro e w38 ⟨v14, rfl, ho0, hb⟩
           refine ⟨_, rfl, ?_⟩
           have n0_ := zaa.mk (Kd.zaW (vc HO_4.out) hb)
           have n1_ := zaa.mk (Kd.zaW (vc HO6.out) hb)
           have n2_ := zaa.mk (Kd.zaW (vc HO9.out) hb)
           have n3_ := zaa.mk (Kd.zaW (vc HO12.out) hb)
           have n4_ := zaa.mk (Kd.zbU (Kd.zbH (ok' := fun k_ => (w.heap.size ≤ k_)) ho0 (fun k_ hk_ => (Nat.le_trans (zad (lc HB.out)) hk_))) (zad (lc HB.out)))
           have n5_ := zaa.mk (zab (lc HB.out) hb)
           clear HO_4
           clear HO6
           clear HO9
           clear HO12
           clear HB
           have HO_4 := n0_
           have HO6 := n1_
           have HO9 := n2_
           have HO12 := n3_
           have HO15 := n4_
           have HB := n5_
           clear n0_ n1_ n2_ n3_ n4_ n5_
           (try clear hb)
           (try clear hb2)
           (try clear hk)
           (try clear hi)
           (try clear ho0)
           refine hK.out _ _ trivial (fun hHeld => ?_)
           clear hK K
           refine ziC (a' := ?_) ?_ ?_
           rotate_left
           ·show Act.put _ (some 49) _ = _
            simp only [Act.put, List.setIfInBounds_toArray, List.set_cons_zero, List.set_cons_succ, zbs, zbR]
            rfl
           refine zcK (i := 10) (N := some 4) (v := ?_) (a' := ?_) #[true, true, true, true, true, true, true, true, true, true, true] rfl rfl (zb8 HT_.out (by kernel_rfl)) (fun _ _ _ h => h) (Or.inl ⟨by rfl, ?_⟩) ?_ ?_
           rotate_left
           ·intro w'
            go_simp
            with_reducible rfl
           rotate_left
           ·simp only [Act.put, List.setIfInBounds_toArray, List.set_cons_zero, List.set_cons_succ, zbs, zbR]
            rfl
           refine zo4 (zjE HT_.out (by kernel_rfl)) ?_
           try go_wp2
           go_roundg k2
           case measure => have := HJ1.out; have := HK2.out; omega
           case rel => exact ⟨(t13), (wrap64 (x30_2 + 1)), rs, H', ⟨by have := HJ1.out; have := HK2.out; omega⟩, ⟨by (with_reducible repeat (first | apply Kd.zaZ | apply Kd.zbr | apply Kd.zbI)); exact HO15.out⟩, ⟨lb⟩⟩
          ·rw [if_neg c25] at H
           exact absurd H (by simp)
         ·replace c22 := Bool.eq_false_iff.mpr c22
          subst c22
          have H1 : (some (([] : List Int), 4)) = some (r1, r2) := by rw [if_neg (show ¬ (false = true) by decide)] at H; exact H
          clear H
          have H := H1
          clear H1
          simp only [Option.some.injEq, Prod.mk.injEq] at H
          obtain ⟨rfl, rfl⟩ := H
          go_wp2_with (first | (go_at_call 134; (with_reducible refine (strings_Contains.calls (⟨#[48, 49, 50, 51, 52, 53, 54, 55, 56, 57]⟩ : ByteArray) (a0.extract (x30_2 : Int).toNat ((wrap64 (x30_2 + 1)) : Int).toNat) false _ A21.out).mono ?_); rintro e w39 ⟨rfl, hb⟩; have n0_ := zaa.mk (Kd.zaW (vc HO_4.out) hb); have n1_ := zaa.mk (zab (lc HB.out) hb); clear HO_4; clear HB; have HO_4 := n0_; have HB := n1_; clear n0_ n1_; (try clear hb); (try clear hb2); (try clear hk); (try clear hi)))
          go_ret2
          exact ⟨_, by first | rfl | (simp [zaf, zag] <;> rfl) | (simp [*, zaf, zag] <;> rfl), (Kd.zcA _ _ _ _ _), lb⟩
        ·rw [if_neg c20] at H
         exact absurd H (by simp)
       ·rw [if_neg c19] at H
        exact absurd H (by simp)
      ·rw [if_neg c18] at H
       exact absurd H (by simp)
     ·rw [if_neg c17] at H
      have c17b0 : decide (x30_2 < (a0.size : Int)) = false := zDF c17
      clear c17
      simp only [Option.some.injEq, Prod.mk.injEq] at H
      obtain ⟨rfl, rfl⟩ := H
      go_wp2
      go_ret2
      exact ⟨_, by first | rfl | (simp [zaf, zag] <;> rfl) | (simp [*, zaf, zag] <;> rfl), by (with_reducible repeat (first | apply Kd.zaZ | apply Kd.zbr | apply Kd.zbI)); exact HO_4.out, lb⟩
end Go.Proofs.YtioofhilohmfbaaGreatDoor.P
end
section
open Go Go.RowKit Go.Lib PrintWords PrintLast PrintMore YtioofhilohmfbaaGreatDoor.P
namespace Go.Proofs.YtioofhilohmfbaaGreatDoor
def runN (p : UInt8 → Bool) : List UInt8 → Nat
 | [] => 0
 | c :: t => if p c = true then 1 + runN p t else 0
theorem zdc (p : UInt8 → Bool) : ∀ l, runN p l ≤ l.length
 | [] => Nat.le_refl _
 | c :: t => by have := zdc p t; rw [runN]; split <;> rw [List.length_cons] <;> omega
theorem zkz (s : ByteArray) (i : Nat) (h : i < s.size) : ∃ c t, s.data.toList.drop i = c :: t ∧ (∀ h' : i < s.size, s[i]'h' = c) ∧ s.data.toList.drop (i + 1) = t := by
 have hl : i < s.data.toList.length := by rw [← Lib.size_eq]; exact h
 exact ⟨s.data.toList[i], s.data.toList.drop (i + 1), List.drop_eq_getElem_cons hl, fun _ => rfl, rfl⟩
theorem zgK (s : ByteArray) (hs : s.size ≤ 17592186044416) (g : Nat) (eg : ∀ args w, (callFunc g args).run Tryz.prog w = .ok (.enter g args) w) (p : UInt8 → Bool)
  (hp : ∀ (c : UInt8) (w : World), Calls Tryz.prog g #[.int .u8 (c.toNat : Int)] w fun e w' => e = .returned (.bool (p c)) ∧ Below w.heap.size w w') (w : World) :
  Calls Tryz.prog 19 #[.string s, .func (.func g) #[] #[]] w fun e w' => e = .returned (.int .i64 (runN p s.data.toList : Nat)) ∧ Below w.heap.size w w' := by
 obtain ⟨res, hres⟩ : ∃ res : Nat, runN p s.data.toList = res := ⟨_, rfl⟩
 rw [hres]
 have HRES : zaa (0 + runN p (s.data.toList.drop 0) = res) := ⟨by rw [Nat.zero_add]; exact hres⟩
 have HS := zaa.mk hs
 clear hres hs
 go_enter Tryz.func19, Tryz.ntmps19
 go_wp2
 go_loopg [5] (s.size + 1) (fun kq v5 wr => ∃ (j : Int), v5 = .int .i64 j ∧ zaa (∃ i : Nat, j = (i : Int) ∧ i ≤ s.size ∧ s.size < kq + i ∧ i + runN p (s.data.toList.drop i) = res) ∧ zaa (Below w.heap.size w wr))
 case atStart => exact ⟨0, rfl, ⟨0, rfl, Nat.zero_le _, by omega, HRES.out⟩, ⟨Below.refl _ _⟩⟩
 case round =>
  obtain ⟨j, rfl, ⟨i, hij, hi, hk, hO⟩, HB⟩ := hrel
  cases gk with
  | zero => exact absurd hk (by omega)
  | succ kq =>
   by_cases hlt : i < s.size
   ·obtain ⟨c, t, e, hb, et⟩ := zkz s i hlt
    have hbc : ∀ h' : j.toNat < s.size, s[j.toNat]'h' = c := fun h' => by
     have e : j.toNat = i := by omega
     simp only [e]
     exact hb _
    clear hb
    rw [e, runN] at hO
    have hg : decide (j < (s.size : Int)) = true := decide_eq_true (by omega)
    have p1 : (0 ≤ j) = True := eq_true (by omega)
    have q1 : (j < (s.size : Int)) = True := eq_true (by omega)
    have HJ : zaa (j = (i : Int) ∧ i < s.size ∧ s.size < kq + 1 + i) := ⟨hij, hlt, hk⟩
    have HC := zaa.mk (hp c)
    have HE := zaa.mk et
    clear e et hij hi hk hlt
    cases hkp : p c with
    | true =>
     rw [hkp, if_pos rfl] at hO
     have HO := zaa.mk hO
     clear hO
     go_wp2_with (go_at_fn g; (try rw [hbc]); (with_reducible refine (HC.out _).mono ?_); rintro e w7 ⟨rfl, hbl⟩; rw [hkp]; have NB := zaa.mk (zab HB.out hbl); clear hbl)
     go_roundg kq
     case measure => have := HJ.out; omega
     case rel =>
      refine ⟨wrap64 (j + 1), rfl, ⟨i + 1, ?_, ?_, ?_, ?_⟩, NB⟩
      ·have := HJ.out; have := HS.out; unfold wrap64; omega
      ·have := HJ.out; omega
      ·have := HJ.out; omega
      ·rw [HE.out]; have := HO.out; omega
    | false =>
     rw [hkp, if_neg Bool.false_ne_true] at hO
     have HO := zaa.mk hO
     clear hO
     go_wp2_with (go_at_fn g; (try rw [hbc]); (with_reducible refine (HC.out _).mono ?_); rintro e w7 ⟨rfl, hbl⟩; rw [hkp]; have NB := zaa.mk (zab HB.out hbl); clear hbl)
     go_ret
     exact ⟨by rw [← HO.out, HJ.out.1]; rfl, NB.out⟩
   ·have hg : decide (j < (s.size : Int)) = false := decide_eq_false (by omega)
    have hz : s.data.toList.drop i = [] := List.drop_eq_nil_of_le (by rw [← Lib.size_eq]; omega)
    rw [hz, runN] at hO
    have HO : zaa (j = (res : Int)) := ⟨by omega⟩
    clear hij hi hk hO hlt hz
    go_wp2
    go_ret
    exact ⟨by rw [← HO.out]; rfl, HB.out⟩
end Go.Proofs.YtioofhilohmfbaaGreatDoor
end
section
open Go.RowKit PrintWords PrintLast PrintMore
namespace Go.Proofs.YtioofhilohmfbaaGreatDoor.P
attribute [local go_sem] za3 za4 zbh zbi zaT zaU za5 za6 zbn
def zci.f (a0 : Int) : Option (Bool) := if a0 = 32 then (some true) else (if a0 = 9 then (some true) else (if a0 = 10 then (some true) else (some (a0 == 13))))
theorem zci.calls (a0 : Int) (r : Bool) (w : World) (h : zci.f a0 = some r) :
  Calls Tryz.prog 20 #[.int .u8 a0] w fun e w' => e = .returned (.bool r) ∧ zaO w w' := by
 have H : (if a0 = 32 then (some true) else (if a0 = 9 then (some true) else (if a0 = 10 then (some true) else (some (a0 == 13))))) = some r := h
 clear h
 by_cases c2 : a0 = 32
 ·rw [if_pos c2] at H
  have c2b0 : (a0 == 32) = true := beq_iff_eq.mpr c2
  have c2b1 : (a0 != 32) = false := bne_eq_false_iff_eq.mpr c2
  clear c2
  obtain rfl := Option.some.inj H
  go_enter Tryz.func20, Tryz.ntmps20
  go_wp2
  go_ret
  exact ⟨by first | rfl | (simp; done) | (simp [*]; done), by repeat (first | exact zaO.refl _ | apply zaO.step)⟩
 ·rw [if_neg c2] at H
  have c2b0 : (a0 == 32) = false := beq_eq_false_iff_ne.mpr c2
  have c2b1 : (a0 != 32) = true := bne_iff_ne.mpr c2
  by_cases c3 : a0 = 9
  ·rw [if_pos c3] at H
   have c3b0 : (a0 == 9) = true := beq_iff_eq.mpr c3
   have c3b1 : (a0 != 9) = false := bne_eq_false_iff_eq.mpr c3
   clear c3
   obtain rfl := Option.some.inj H
   go_enter Tryz.func20, Tryz.ntmps20
   go_wp2
   go_ret
   exact ⟨by first | rfl | (simp; done) | (simp [*]; done), by repeat (first | exact zaO.refl _ | apply zaO.step)⟩
  ·rw [if_neg c3] at H
   have c3b0 : (a0 == 9) = false := beq_eq_false_iff_ne.mpr c3
   have c3b1 : (a0 != 9) = true := bne_iff_ne.mpr c3
   by_cases c4 : a0 = 10
   ·rw [if_pos c4] at H
    have c4b0 : (a0 == 10) = true := beq_iff_eq.mpr c4
    have c4b1 : (a0 != 10) = false := bne_eq_false_iff_eq.mpr c4
    clear c4
    obtain rfl := Option.some.inj H
    go_enter Tryz.func20, Tryz.ntmps20
    go_wp2
    go_ret
    exact ⟨by first | rfl | (simp; done) | (simp [*]; done), by repeat (first | exact zaO.refl _ | apply zaO.step)⟩
   ·rw [if_neg c4] at H
    have c4b0 : (a0 == 10) = false := beq_eq_false_iff_ne.mpr c4
    have c4b1 : (a0 != 10) = true := bne_iff_ne.mpr c4
    obtain rfl := Option.some.inj H
    go_enter Tryz.func20, Tryz.ntmps20
    go_wp2
    go_ret
    exact ⟨by first | rfl | (simp; done) | (simp [*]; done), by repeat (first | exact zaO.refl _ | apply zaO.step)⟩
def zci.Pure : Prop := ∀ (a0 : Int), (Lit.int .u8 a0).wf = true → zci.f a0 = some true
theorem zci.walk (P : zci.Pure) (a0 : Int) (w : World) (w0 : (Lit.int .u8 a0).wf = true) :
  Calls Tryz.prog 20 #[.int .u8 a0] w fun e w' => e = .returned (.bool true) ∧ Below w.heap.size w w' := by
 have h := P a0 w0
 refine (zci.calls a0 true w h).mono ?_
 rintro e w' ⟨rfl, hd⟩
 exact ⟨rfl, hd.below⟩
def zb2.f (a0 : Int) : Option (Bool) := if 48 ≤ a0 then (some (decide (a0 ≤ 57))) else (some false)
theorem zb2.calls (a0 : Int) (r : Bool) (w : World) (h : zb2.f a0 = some r) :
  Calls Tryz.prog 47 #[.int .u8 a0] w fun e w' => e = .returned (.bool r) ∧ zaO w w' := by
 have H : (if 48 ≤ a0 then (some (decide (a0 ≤ 57))) else (some false)) = some r := h
 clear h
 by_cases c2 : 48 ≤ a0
 ·rw [if_pos c2] at H
  have c2b0 : decide (48 ≤ a0) = true := zDT c2
  clear c2
  obtain rfl := Option.some.inj H
  go_enter Tryz.func47, Tryz.ntmps47
  go_wp2
  go_ret
  exact ⟨by first | rfl | (simp; done) | (simp [*]; done), by repeat (first | exact zaO.refl _ | apply zaO.step)⟩
 ·rw [if_neg c2] at H
  have c2b0 : decide (48 ≤ a0) = false := zDF c2
  clear c2
  obtain rfl := Option.some.inj H
  go_enter Tryz.func47, Tryz.ntmps47
  go_wp2
  go_ret
  exact ⟨by first | rfl | (simp; done) | (simp [*]; done), by repeat (first | exact zaO.refl _ | apply zaO.step)⟩
def zbu.f (a0 : Int) : Option (Bool) := if 97 ≤ a0 then (if a0 ≤ 122 then (some true) else (if 65 ≤ a0 then (if a0 ≤ 90 then (some true) else (some (a0 == 95))) else (some (a0 == 95)))) else (if 65 ≤ a0 then (if a0 ≤ 90 then (some true) else (some (a0 == 95))) else (some (a0 == 95)))
theorem zbu.calls (a0 : Int) (r : Bool) (w : World) (h : zbu.f a0 = some r) :
  Calls Tryz.prog 45 #[.int .u8 a0] w fun e w' => e = .returned (.bool r) ∧ zaO w w' := by
 have H : (if 97 ≤ a0 then (if a0 ≤ 122 then (some true) else (if 65 ≤ a0 then (if a0 ≤ 90 then (some true) else (some (a0 == 95))) else (some (a0 == 95)))) else (if 65 ≤ a0 then (if a0 ≤ 90 then (some true) else (some (a0 == 95))) else (some (a0 == 95)))) = some r := h
 clear h
 by_cases c2 : 97 ≤ a0
 ·rw [if_pos c2] at H
  have c2b0 : decide (97 ≤ a0) = true := zDT c2
  clear c2
  by_cases c3 : a0 ≤ 122
  ·rw [if_pos c3] at H
   have c3b0 : decide (a0 ≤ 122) = true := zDT c3
   clear c3
   obtain rfl := Option.some.inj H
   go_enter Tryz.func45, Tryz.ntmps45
   go_wp2
   go_ret
   exact ⟨by first | rfl | (simp; done) | (simp [*]; done), by repeat (first | exact zaO.refl _ | apply zaO.step)⟩
  ·rw [if_neg c3] at H
   have c3b0 : decide (a0 ≤ 122) = false := zDF c3
   clear c3
   by_cases c4 : 65 ≤ a0
   ·rw [if_pos c4] at H
    have c4b0 : decide (65 ≤ a0) = true := zDT c4
    clear c4
    by_cases c5 : a0 ≤ 90
    ·rw [if_pos c5] at H
     have c5b0 : decide (a0 ≤ 90) = true := zDT c5
     clear c5
     obtain rfl := Option.some.inj H
     go_enter Tryz.func45, Tryz.ntmps45
     go_wp2
     go_ret
     exact ⟨by first | rfl | (simp; done) | (simp [*]; done), by repeat (first | exact zaO.refl _ | apply zaO.step)⟩
    ·rw [if_neg c5] at H
     have c5b0 : decide (a0 ≤ 90) = false := zDF c5
     clear c5
     obtain rfl := Option.some.inj H
     go_enter Tryz.func45, Tryz.ntmps45
     go_wp2
     go_ret
     exact ⟨by first | rfl | (simp; done) | (simp [*]; done), by repeat (first | exact zaO.refl _ | apply zaO.step)⟩
   ·rw [if_neg c4] at H
    have c4b0 : decide (65 ≤ a0) = false := zDF c4
    clear c4
    obtain rfl := Option.some.inj H
    go_enter Tryz.func45, Tryz.ntmps45
    go_wp2
    go_ret
    exact ⟨by first | rfl | (simp; done) | (simp [*]; done), by repeat (first | exact zaO.refl _ | apply zaO.step)⟩
 ·rw [if_neg c2] at H
  have c2b0 : decide (97 ≤ a0) = false := zDF c2
  clear c2
  by_cases c6 : 65 ≤ a0
  ·rw [if_pos c6] at H
   have c6b0 : decide (65 ≤ a0) = true := zDT c6
   clear c6
   by_cases c7 : a0 ≤ 90
   ·rw [if_pos c7] at H
    have c7b0 : decide (a0 ≤ 90) = true := zDT c7
    clear c7
    obtain rfl := Option.some.inj H
    go_enter Tryz.func45, Tryz.ntmps45
    go_wp2
    go_ret
    exact ⟨by first | rfl | (simp; done) | (simp [*]; done), by repeat (first | exact zaO.refl _ | apply zaO.step)⟩
   ·rw [if_neg c7] at H
    have c7b0 : decide (a0 ≤ 90) = false := zDF c7
    clear c7
    obtain rfl := Option.some.inj H
    go_enter Tryz.func45, Tryz.ntmps45
    go_wp2
    go_ret
    exact ⟨by first | rfl | (simp; done) | (simp [*]; done), by repeat (first | exact zaO.refl _ | apply zaO.step)⟩
  ·rw [if_neg c6] at H
   have c6b0 : decide (65 ≤ a0) = false := zDF c6
   clear c6
   obtain rfl := Option.some.inj H
   go_enter Tryz.func45, Tryz.ntmps45
   go_wp2
   go_ret
   exact ⟨by first | rfl | (simp; done) | (simp [*]; done), by repeat (first | exact zaO.refl _ | apply zaO.step)⟩
def zbu.Pure : Prop := ∀ (a0 : Int), (Lit.int .u8 a0).wf = true → zbu.f a0 = some true
theorem zbu.walk (P : zbu.Pure) (a0 : Int) (w : World) (w0 : (Lit.int .u8 a0).wf = true) :
  Calls Tryz.prog 45 #[.int .u8 a0] w fun e w' => e = .returned (.bool true) ∧ Below w.heap.size w w' := by
 have h := P a0 w0
 refine (zbu.calls a0 true w h).mono ?_
 rintro e w' ⟨rfl, hd⟩
 exact ⟨rfl, hd.below⟩
def zce.f (a0 : Int) : Option (Bool) := (zbu.f a0).bind fun t1 => (if t1 = true then (some true) else ((zb2.f a0).bind fun t2 => (some t2)))
theorem zce.calls (a0 : Int) (r : Bool) (w : World) (h : zce.f a0 = some r) :
  Calls Tryz.prog 46 #[.int .u8 a0] w fun e w' => e = .returned (.bool r) ∧ zaO w w' := by
 have H : ((zbu.f a0).bind fun t1 => (if t1 = true then (some true) else ((zb2.f a0).bind fun t2 => (some t2)))) = some r := h
 clear h
 replace H := zBE H
 obtain ⟨t1, A20, H⟩ := H
 replace H : (if t1 = true then (some true) else ((zb2.f a0).bind fun t2 => (some t2))) = some r := H
 have A2 := zaa.mk A20
 clear A20
 by_cases c3 : t1 = true
 ·subst c3
  have H1 : (some true) = some r := by rw [if_pos rfl] at H; exact H
  clear H
  have H := H1
  clear H1
  obtain rfl := Option.some.inj H
  go_enter Tryz.func46, Tryz.ntmps46
  go_wp2_with (first | (go_at_call 45; (with_reducible refine (zbu.calls a0 true _ A2.out).mono ?_); rintro e w' ⟨rfl, ⟨nd, rfl⟩⟩))
  go_ret
  exact ⟨by first | rfl | (simp; done) | (simp [*]; done), by repeat (first | exact zaO.refl _ | apply zaO.step)⟩
 ·replace c3 := Bool.eq_false_iff.mpr c3
  subst c3
  have H1 : ((zb2.f a0).bind fun t2 => (some t2)) = some r := by rw [if_neg (show ¬ (false = true) by decide)] at H; exact H
  clear H
  have H := H1
  clear H1
  replace H := zBE H
  obtain ⟨t2, A40, H⟩ := H
  replace H : (some t2) = some r := H
  have A4 := zaa.mk A40
  clear A40
  obtain rfl := Option.some.inj H
  go_enter Tryz.func46, Tryz.ntmps46
  go_wp2_with (first | (go_at_call 45; (with_reducible refine (zbu.calls a0 false _ A2.out).mono ?_); rintro e w' ⟨rfl, ⟨nd, rfl⟩⟩) | (go_at_call 47; (with_reducible refine (zb2.calls a0 t2 _ A4.out).mono ?_); rintro e w' ⟨rfl, ⟨nd, rfl⟩⟩))
  go_ret
  exact ⟨by first | rfl | (simp; done) | (simp [*]; done), by repeat (first | exact zaO.refl _ | apply zaO.step)⟩
def zce.Pure : Prop := ∀ (a0 : Int), (Lit.int .u8 a0).wf = true → zce.f a0 = some true
theorem zce.walk (P : zce.Pure) (a0 : Int) (w : World) (w0 : (Lit.int .u8 a0).wf = true) :
  Calls Tryz.prog 46 #[.int .u8 a0] w fun e w' => e = .returned (.bool true) ∧ Below w.heap.size w w' := by
 have h := P a0 w0
 refine (zce.calls a0 true w h).mono ?_
 rintro e w' ⟨rfl, hd⟩
 exact ⟨rfl, hd.below⟩
end Go.Proofs.YtioofhilohmfbaaGreatDoor.P
end
section
open Go Go.RowKit Go.Lib PrintWords PrintLast PrintMore YtioofhilohmfbaaGreatDoor.P
namespace Go.Proofs.YtioofhilohmfbaaGreatDoor
def zbA (c : UInt8) : Bool := c.toNat == 32 || c.toNat == 9 || c.toNat == 10 || c.toNat == 13
def zdj (c : UInt8) : Bool := decide (97 ≤ c.toNat ∧ c.toNat ≤ 122) || decide (65 ≤ c.toNat ∧ c.toNat ≤ 90) || c.toNat == 95 || decide (48 ≤ c.toNat ∧ c.toNat ≤ 57)
def zfV (c : UInt8) : Bool := zdj c || c.toNat == 46
theorem zmy : ∀ c : Fin 256, P.zci.f (c.val : Int) = some (zbA (UInt8.ofNat c.val)) := by decide +kernel
theorem znN : ∀ c : Fin 256, P.zce.f (c.val : Int) = some (zdj (UInt8.ofNat c.val)) := by decide +kernel
theorem zpB (c : UInt8) : P.zci.f (c.toNat : Int) = some (zbA c) := by
 have := zmy ⟨c.toNat, c.toNat_lt⟩
 simpa using this
theorem zoz (c : UInt8) : P.zce.f (c.toNat : Int) = some (zdj c) := by
 have := znN ⟨c.toNat, c.toNat_lt⟩
 simpa using this
theorem zbw {w w' : World} (h : zaO w w') : Below w.heap.size w w' := by
 obtain ⟨nd, rfl⟩ := h
 exact zao (Below.refl _ _) _
theorem ziP (c : UInt8) (w : World) : Calls Tryz.prog 48 #[.int .u8 (c.toNat : Int)] w fun e w' => e = .returned (.bool (zfV c)) ∧ Below w.heap.size w w' := by
 have hf := zoz c
 have hb : zfV c = (zdj c || c.toNat == 46) := rfl
 have hd : decide ((c.toNat : Int) = 46) = (c.toNat == 46) := by
  by_cases h : c.toNat = 46
  ·rw [h]; rfl
  ·rw [decide_eq_false (by omega), beq_eq_false_iff_ne.2 h]
 rw [hb]
 cases hp : zdj c with
 | true =>
  rw [hp] at hf
  go_enter Tryz.func48, Tryz.ntmps48
  go_wp2_with (go_at_call 46; (with_reducible refine (P.zce.calls _ true _ hf).mono ?_); rintro e w1 ⟨rfl, hd0⟩; have HB := zaa.mk (zbw hd0); clear hd0)
  go_ret
  exact ⟨rfl, HB.out⟩
 | false =>
  rw [hp] at hf
  go_enter Tryz.func48, Tryz.ntmps48
  go_wp2_with (go_at_call 46; (with_reducible refine (P.zce.calls _ false _ hf).mono ?_); rintro e w1 ⟨rfl, hd0⟩; have HB := zaa.mk (zbw hd0); clear hd0)
  go_ret
  exact ⟨by simp [hd, beq_iff_eq] <;> omega, HB.out⟩
def P.zbF.f (a0 : ByteArray) : Option Int := if a0.size ≤ 17592186044416 then some ((runN zbA a0.data.toList : Nat) : Int) else none
theorem P.zbF.calls (a0 : ByteArray) (r : Int) (w : World) (h : P.zbF.f a0 = some r) :
  Calls Tryz.prog 19 #[.string a0, .func (.func 20) #[] #[]] w fun e w' => e = .returned (.int .i64 r) ∧ Below w.heap.size w w' := by
 unfold P.zbF.f at h
 by_cases hs : a0.size ≤ 17592186044416
 case neg => rw [if_neg hs] at h; cases h
 rw [if_pos hs] at h
 injection h with h
 subst h
 exact zgK a0 hs 20 (enters_of Tryz.func20 (by kernel_rfl) rfl) zbA (fun c w => (P.zci.calls _ _ w (zpB c)).mono fun e w' ⟨he, hd⟩ => ⟨he, zbw hd⟩) w
def P.zc1.f (a0 : ByteArray) : Option Int := if a0.size ≤ 17592186044416 then some ((runN zdj a0.data.toList : Nat) : Int) else none
theorem P.zc1.calls (a0 : ByteArray) (r : Int) (w : World) (h : P.zc1.f a0 = some r) :
  Calls Tryz.prog 19 #[.string a0, .func (.func 46) #[] #[]] w fun e w' => e = .returned (.int .i64 r) ∧ Below w.heap.size w w' := by
 unfold P.zc1.f at h
 by_cases hs : a0.size ≤ 17592186044416
 case neg => rw [if_neg hs] at h; cases h
 rw [if_pos hs] at h
 injection h with h
 subst h
 exact zgK a0 hs 46 (enters_of Tryz.func46 (by kernel_rfl) rfl) zdj (fun c w => (P.zce.calls _ _ w (zoz c)).mono fun e w' ⟨he, hd⟩ => ⟨he, zbw hd⟩) w
def P.zcQ.f (a0 : ByteArray) : Option Int := if a0.size ≤ 17592186044416 then some ((runN zfV a0.data.toList : Nat) : Int) else none
theorem P.zcQ.calls (a0 : ByteArray) (r : Int) (w : World) (h : P.zcQ.f a0 = some r) :
  Calls Tryz.prog 19 #[.string a0, .func (.func 48) #[] #[]] w fun e w' => e = .returned (.int .i64 r) ∧ Below w.heap.size w w' := by
 unfold P.zcQ.f at h
 by_cases hs : a0.size ≤ 17592186044416
 case neg => rw [if_neg hs] at h; cases h
 rw [if_pos hs] at h
 injection h with h
 subst h
 exact zgK a0 hs 48 (enters_of Tryz.func48 (by kernel_rfl) rfl) zfV (fun c w => ziP c w) w
def zlH (p : UInt8 → Bool) (l : List UInt8) : Int := if runN (fun c => !p c) l < l.length then (runN (fun c => !p c) l : Int) else -1
def zcJ (l : List UInt8) : Bool := l.all fun c => decide (c.toNat < 128)
theorem zmz {s : ByteArray} (h : zcJ s.data.toList = true) (i : Nat) (hi : i < s.size) : (s[i]'hi).toNat < 128 := by
 have := List.all_eq_true.1 h (s[i]'hi) (by
  have : s[i]'hi = s.data.toList[i]'(by rw [← Lib.size_eq]; exact hi) := rfl
  rw [this]
  exact List.getElem_mem _)
 simpa using this
theorem ziQ (s : ByteArray) (hs : s.size ≤ 17592186044416) (ha : zcJ s.data.toList = true) (g : Nat) (eg : ∀ args w, (callFunc g args).run Tryz.prog w = .ok (.enter g args) w) (p : UInt8 → Bool)
  (hp : ∀ (c : UInt8) (w : World), c.toNat < 128 → Calls Tryz.prog g #[.int .i32 (c.toNat : Int)] w fun e w' => e = .returned (.bool (p c)) ∧ Below w.heap.size w w') (w : World) :
  Calls Tryz.prog 133 #[.string s, .func (.func g) #[] #[], .bool true] w fun e w' => e = .returned (.int .i64 (zlH p s.data.toList)) ∧ Below w.heap.size w w' := by
 obtain ⟨R, hR⟩ : ∃ R : Nat, runN (fun c => !p c) s.data.toList = R := ⟨_, rfl⟩
 have HR : zaa (runN (fun c => !p c) (s.data.toList.drop 0) + 0 = R) := ⟨by rw [Nat.add_zero]; exact hR⟩
 have HS := zaa.mk hs
 have HA := zaa.mk (zmz ha)
 have HP := zaa.mk hp
 have HR2 := zaa.mk hR
 clear hs ha hp hR
 go_enter Tryz.func133, Tryz.ntmps133
 go_wp2
 go_loopg [] s.size (fun kq wx => ∃ pos : Nat, zaa (wx.heap[w.heap.size]? = some (.stringIter s pos)) ∧ zaa (Below w.heap.size w wx) ∧ zaa (runN (fun c => !p c) (s.data.toList.drop pos) + pos = R ∧ s.size ≤ pos + kq))
 case atStart => exact ⟨0, ⟨World.iter_heap w s 0⟩, ⟨(Below.refl _ w).alloc (Nat.le_refl _) _⟩, ⟨HR.out, by omega⟩⟩
 case round =>
  obtain ⟨pos, HI, HB, HO⟩ := hrel
  by_cases hps : pos < s.size
  ·obtain ⟨kq, rfl⟩ : ∃ m, gk = m + 1 := ⟨gk - 1, by have := HO.out; omega⟩
   have hc := HA.out pos hps
   have hnx : ∀ ty, (Instr.next (.pointer (some ⟨w.heap.size, 0, none⟩)) true ty).run Tryz.prog wr = _ := fun ty => Lib.run_next_ascii_at wr w.heap.size s pos ty HI.out hps hc
   obtain ⟨c, t, e1, e2, e3⟩ := zkz s pos hps
   rw [e2 hps] at hnx hc
   obtain ⟨hO, hK⟩ := HO.out
   rw [e1, runN] at hO
   have hit := Lib.iterAt_heap wr w.heap.size s pos (pos + 1) HI.out
   have hbw := Lib.below_iterAt HB.out (k := w.heap.size) (Nat.le_refl _) s (pos + 1)
   obtain ⟨W, hW⟩ : ∃ W, wr.iterAt w.heap.size s (pos + 1) = W := ⟨_, rfl⟩
   rw [hW] at hnx hit hbw
   have HC := zaa.mk (HP.out c W hc)
   have HI2 := zaa.mk hit
   have HB2 := zaa.mk hbw
   have HW := zaa.mk (zad hbw)
   have E3 := zaa.mk e3
   clear e1 e2 e3 hit hbw hc hW HI HB HO
   cases hpc : p c with
   | true =>
    rw [hpc, if_neg (by decide)] at hO
    have HF : zaa (zlH p s.data.toList = (pos : Int)) := ⟨by
     have hR := HR2.out
     unfold zlH
     rw [hR, if_pos (by rw [← Lib.size_eq]; omega)]
     omega⟩
    clear hO hK hps
    go_wp2_with (go_at_fn g; (with_reducible refine HC.out.mono ?_); rintro e w7 ⟨rfl, hbl⟩; rw [hpc]; have NB := zaa.mk (zab HB2.out hbl); clear hbl)
    go_ret
    exact ⟨by rw [HF.out]; rfl, NB.out⟩
   | false =>
    rw [hpc, if_pos (show (!false) = true from rfl)] at hO
    have HN : zaa (runN (fun c => !p c) (s.data.toList.drop (pos + 1)) + (pos + 1) = R ∧ s.size ≤ pos + 1 + kq) := ⟨by rw [E3.out]; omega, by omega⟩
    clear hO hK hps
    go_wp2_with (go_at_fn g; (with_reducible refine HC.out.mono ?_); rintro e w7 ⟨rfl, hbl⟩; rw [hpc]; have NB := zaa.mk (zab HB2.out hbl); have NI := zaa.mk ((hbl.block w.heap.size (Array.getElem?_eq_some_iff.1 HI2.out).1).trans HI2.out); clear hbl)
    go_roundg kq
    case measure => omega
    case rel => exact ⟨pos + 1, NI, NB, HN⟩
  ·have hnx : ∀ ty, (Instr.next (.pointer (some ⟨w.heap.size, 0, none⟩)) true ty).run Tryz.prog wr = _ := fun ty => Lib.run_next_end_at wr w.heap.size s pos ty HI.out hps
   have HF : zaa (zlH p s.data.toList = -1) := ⟨by
    have hR := HR2.out
    have hO := HO.out.1
    unfold zlH
    rw [hR, if_neg (by rw [← Lib.size_eq]; omega)]⟩
   clear hps
   go_wp2
   go_ret
   exact ⟨by rw [HF.out]; rfl, HB.out⟩
theorem zep (s : ByteArray) (hs : s.size ≤ 17592186044416) (ha : zcJ s.data.toList = true) (g : Nat) (eg : ∀ args w, (callFunc g args).run Tryz.prog w = .ok (.enter g args) w) (p : UInt8 → Bool)
  (hp : ∀ (c : UInt8) (w : World), c.toNat < 128 → Calls Tryz.prog g #[.int .i32 (c.toNat : Int)] w fun e w' => e = .returned (.bool (p c)) ∧ Below w.heap.size w w') (w : World) :
  Calls Tryz.prog 93 #[.string s, .func (.func g) #[] #[]] w fun e w' => e = .returned (.int .i64 (zlH p s.data.toList)) ∧ Below w.heap.size w w' := by
 have HC := zaa.mk (ziQ s hs ha g eg p hp w)
 clear hs ha hp
 obtain ⟨r, hr⟩ : ∃ r, zlH p s.data.toList = r := ⟨_, rfl⟩
 rw [hr] at HC ⊢
 clear hr eg
 go_enter Tryz.func93, Tryz.ntmps93
 go_wp2_with (go_at_call 133; (with_reducible refine HC.out.mono ?_); rintro e w7 ⟨rfl, hbl⟩; have NB := zaa.mk hbl; clear hbl)
 go_ret
 exact ⟨rfl, NB.out⟩
def zif (c : UInt8) : Bool := decide (48 ≤ c.toNat ∧ c.toNat ≤ 57)
def zc3 : ByteArray := ⟨#[48, 49, 50, 51, 52, 53, 54, 55, 56, 57]⟩
theorem zmA : ∀ c : Fin 128, decide (0 ≤ Lib.indexByte zc3.data.toList (UInt8.ofNat c.val)) = zif (UInt8.ofNat c.val) := by decide +kernel
theorem zjQ (c : UInt8) (w : World) (hc : c.toNat < 128) : Calls Tryz.prog 91 #[.int .i32 (c.toNat : Int)] w fun e w' => e = .returned (.bool (!zif c)) ∧ Below w.heap.size w w' := by
 have h := zmA ⟨c.toNat, hc⟩
 simp only [UInt8.ofNat_toNat] at h
 have HC : ∀ W : World, Calls Tryz.prog 59 #[.string zc3, .int .i32 (c.toNat : Int)] W fun e w' => e = .returned (.bool (zif c)) ∧ w' = W := fun W => by
  have := Tryz.strings_ContainsRune_ascii zc3 (c.toNat : Int) W (by omega) (by omega)
  rwa [Int.toNat_natCast, show c.toNat.toUInt8 = c from UInt8.ofNat_toNat, h] at this
 obtain ⟨j, hj⟩ : ∃ j : Int, (c.toNat : Int) = j := ⟨_, rfl⟩
 rw [hj] at HC ⊢
 have HK := zaa.mk HC
 clear h HC hj hc
 unfold zc3 at HK
 go_enter Tryz.func91, Tryz.ntmps91
 go_wp2_with (go_at_call 59; (with_reducible refine (HK.out _).mono ?_); rintro e w7 ⟨rfl, rfl⟩)
 go_ret
 exact ⟨rfl, Below.refl _ _⟩
def zec (l : List UInt8) : Nat := runN zif l
theorem zpC (l : List UInt8) : zlH (fun c => !zif c) l = if zec l < l.length then (zec l : Int) else -1 := by
 unfold zlH zec
 simp only [Bool.not_not]
theorem zgL (s : ByteArray) (hs : s.size ≤ 17592186044416) (ha : zcJ s.data.toList = true) (ad : Addr) (w : World) (hc : w.cell? ad = some (.func (.func 91) #[] #[])) :
  Calls Tryz.prog 92 #[.string s, .pointer (some ad)] w fun e w' => e = .returned (.string (s.extract 0 (zec s.data.toList))) ∧ Below w.heap.size w w' := by
 have HC := zaa.mk (fun W => zep s hs ha 91 (enters_of Tryz.func91 (by kernel_rfl) rfl) _ zjQ W)
 have hle := zdc zif s.data.toList
 rw [← Lib.size_eq] at hle
 obtain ⟨n, hn⟩ : ∃ n, zec s.data.toList = n := ⟨_, rfl⟩
 have hi := zpC s.data.toList
 rw [hn, ← Lib.size_eq] at hi
 rw [hn]
 unfold zec at hn
 rw [hn] at hle
 by_cases hlt : n < s.size
 ·rw [if_pos hlt] at hi
  rw [hi] at HC
  obtain ⟨j, hj⟩ : ∃ j : Int, (n : Int) = j := ⟨_, rfl⟩
  rw [hj] at HC
  have hjn : j.toNat = n := by omega
  have c1 : decide (0 ≤ j) = true := decide_eq_true (by omega)
  have c2 : (0 ≤ j) = True := eq_true (by omega)
  have c3 : (j ≤ (s.size : Int)) = True := eq_true (by omega)
  have HN := zaa.mk hjn
  clear hs ha hle hn hi hlt hj hjn
  go_enter Tryz.func92, Tryz.ntmps92
  go_wp2_with (go_at_call 93; (with_reducible refine (HC.out _).mono ?_); rintro e w7 ⟨rfl, hbl⟩; have NB := zaa.mk hbl; clear hbl)
  go_ret
  exact ⟨by rw [← HN.out]; rfl, NB.out⟩
 ·rw [if_neg hlt] at hi
  rw [hi] at HC
  have HE : zaa (s.extract 0 n = s) := ⟨by
   rw [show n = s.size by omega]; exact ByteArray.extract_zero_size⟩
  clear hs ha hle hn hi hlt
  go_enter Tryz.func92, Tryz.ntmps92
  go_wp2_with (go_at_call 93; (with_reducible refine (HC.out _).mono ?_); rintro e w7 ⟨rfl, hbl⟩; have NB := zaa.mk hbl; clear hbl)
  go_ret
  exact ⟨by rw [HE.out]; rfl, NB.out⟩
end Go.Proofs.YtioofhilohmfbaaGreatDoor
end
section
open Go Go.RowKit PrintWords PrintLast PrintMore
namespace Go.Proofs.YtioofhilohmfbaaGreatDoor.P
def zf5 (l : List UInt8) : Nat := l.foldl (fun a c => a * 10 + (c.toNat - 48)) 0
theorem zfe (l : List UInt8) (c : UInt8) : zf5 (l ++ [c]) = zf5 l * 10 + (c.toNat - 48) := by unfold zf5; rw [List.foldl_append]; rfl
theorem ziR {c : UInt8} (h : zif c = true) : 48 ≤ c.toNat ∧ c.toNat ≤ 57 := by unfold zif at h; exact of_decide_eq_true h
theorem zmB : ∀ (n : Nat) (l : List UInt8), l.length = n → (∀ c ∈ l, zif c = true) → zf5 l < 10 ^ n
 | 0, l, hl, _ => by
  obtain rfl := List.eq_nil_of_length_eq_zero hl
  decide
 | n + 1, l, hl, hd => by
  have hne : l ≠ [] := fun e => by rw [e] at hl; simp at hl
  have e := List.dropLast_concat_getLast hne
  have ih := zmB n l.dropLast (by simp [hl]) (fun c hc => hd c (by rw [List.dropLast_eq_take] at hc; exact List.mem_of_mem_take hc))
  have hc := ziR (hd _ (List.getLast_mem hne))
  rw [← e, zfe, Nat.pow_succ]
  omega
theorem zff {l : List UInt8} (hl : l.length ≤ 45) (hd : ∀ c ∈ l, zif c = true) : big 8 (zf5 l) := by
 have h1 := zmB _ l rfl hd
 have h2 : 10 ^ l.length ≤ 10 ^ 45 := Nat.pow_le_pow_right (by decide) hl
 have h3 : (10 : Nat) ^ 45 = 1000000000000000000000000000000000000000000000 := by decide
 have h4 : (4294967296 : Int) ^ 8 = 115792089237316195423570985008687907853269984665640564039457584007913129639936 := by decide
 unfold big
 rw [h4]
 omega
theorem zlg : ∀ c : Fin 256, zc3.data.toList.contains (UInt8.ofNat c.val) = zif (UInt8.ofNat c.val) := by decide +kernel
theorem zgM (c : UInt8) : zc3.data.toList.contains c = zif c := by
 have := zlg ⟨c.toNat, c.toNat_lt⟩
 simpa using this
theorem zfg (p : UInt8 → Bool) : ∀ l : List UInt8, (∀ c ∈ l, p c = true) → l.dropWhile p = []
 | [], _ => rfl
 | c :: t, h => by rw [List.dropWhile_cons, if_pos (h c (by simp))]; exact zfg p t (fun d hd => h d (by simp [hd]))
theorem zjR {l : List UInt8} (hd : ∀ c ∈ l, zif c = true) : Lib.trimS l zc3.data.toList = [] := by
 have h : Lib.trimRightS l zc3.data.toList = [] := by
  unfold Lib.trimRightS
  rw [zfg _ _ (fun c hc => by rw [zgM]; exact hd c (List.mem_reverse.1 hc)), List.reverse_nil]
 unfold Lib.trimS
 rw [h]
 rfl
theorem zlh : ∀ c : Fin 256, zif (UInt8.ofNat c.val) = true → decide (0 ≤ Lib.indexByte zc3.data.toList (UInt8.ofNat c.val)) = true := by decide +kernel
theorem zjS (s : ByteArray) (i : Nat) (h : i < s.size) : (s.extract i (i + 1)).data.toList = [s[i]'h] := by
 have hl : i < s.data.toList.length := by rw [← Lib.size_eq]; exact h
 rw [ByteArray.data_extract, Array.toList_extract, List.extract_eq_take_drop, Nat.add_sub_cancel_left, List.drop_eq_getElem_cons hl]
 rfl
theorem ziS (s : ByteArray) (i : Nat) (h : i < s.size) (hd : zif (s[i]'h) = true) : strings_Contains.f (⟨#[48, 49, 50, 51, 52, 53, 54, 55, 56, 57]⟩ : ByteArray) (s.extract i (i + 1)) = some true := by
 unfold strings_Contains.f
 rw [zjS s i h]
 simp only
 have := zlh ⟨(s[i]'h).toNat, (s[i]'h).toNat_lt⟩ (by simpa using hd)
 simp only [UInt8.ofNat_toNat] at this
 exact congrArg some this
theorem ziT (s : ByteArray) (hs : s.size ≤ 45) (hd : ∀ c ∈ s.data.toList, zif c = true) :
  ∀ d i, i + d = s.size → Ev (fun k => zay.l0 k s (L (zf5 (s.data.toList.take i))) (s.size : Int) (i : Int)) (L (zf5 s.data.toList), 0)
 | 0, i, hi => by
  refine Ev.at1 (fun k => ?_)
  simp only [zay.l0]
  rw [if_neg (by omega), List.take_of_length_le (by rw [← Lib.size_eq]; omega)]
 | d + 1, i, hi => by
  have hlt : i < s.size := by omega
  have e2 : wrap64 ((i : Int) + 1) = ((i + 1 : Nat) : Int) := by unfold wrap64; omega
  have ih := ziT s hs hd d (i + 1) (by omega)
  have hm : s[i]'hlt ∈ s.data.toList := by
   have : s[i]'hlt = s.data.toList[i]'(by rw [← Lib.size_eq]; exact hlt) := rfl
   rw [this]
   exact List.getElem_mem _
  have hc := hd _ hm
  have hr := ziR hc
  have htk : s.data.toList.take (i + 1) = s.data.toList.take i ++ [s[i]'hlt] := by
   rw [List.take_succ_eq_append_getElem (by rw [← Lib.size_eq]; exact hlt)]
   rfl
  have hb1 := zff (l := s.data.toList.take i) (by rw [List.length_take]; omega) (fun c hc => hd c (List.mem_of_mem_take hc))
  have hb2 := zff (l := s.data.toList.take (i + 1)) (by rw [List.length_take]; omega) (fun c hc => hd c (List.mem_of_mem_take hc))
  rw [htk, zfe] at hb2
  rw [htk, zfe] at ih
  obtain ⟨v, hv⟩ : ∃ v, zf5 (s.data.toList.take i) = v := ⟨_, rfl⟩
  obtain ⟨g, hg⟩ : ∃ g, (s[i]'hlt).toNat - 48 = g := ⟨_, rfl⟩
  rw [hv] at hb1 hb2 ih ⊢
  rw [hg] at hb2 ih
  have m := fun {j : Nat} (h : big 8 j) => zbt h (show 8 ≤ 64 by decide)
  have hbt : (bt s (i : Int) - 48) % 256 = (g : Int) := by
   unfold bt
   rw [dif_pos (by simpa using hlt)]
   simp only [Int.toNat_natCast]
   omega
  have h10 := zqF 10 (by decide)
  have hgL := zqF g (by omega)
  have ht := zmt (m hb1) (zgJ 64 (show 10 < 4294967296 by decide) (by decide)) (m (zcW hb2 (by omega)))
  have hp := zmq (m (zcW hb2 (Nat.le_add_right (v * 10) g))) (zgJ 64 (show g < 4294967296 by omega) (by decide)) (m hb2)
  have hcd := ziS s i hlt hc
  refine Ev.step (f := fun k => (zbJ.f k 10).bind fun t4 => (zaG.f k (L v) t4).bind fun t7 => (zbJ.f k (g : Int)).bind fun t10 => (zaD.f k t7 t10).bind fun t13 => zay.l0 k s t13 (s.size : Int) ((i + 1 : Nat) : Int)) (fun k => ?_) ?_
  ·simp only [zay.l0, e2, Int.toNat_natCast, hbt]
   rw [if_pos (show (i : Int) < (s.size : Int) by omega), if_pos (show (0 : Int) ≤ (i : Int) by omega), if_pos (show (i : Int) ≤ ((i + 1 : Nat) : Int) by omega), if_pos (show ((i + 1 : Nat) : Int) ≤ (s.size : Int) by omega), hcd]
   simp only [Option.bind_some, if_true]
   congr 1
   funext t4
   congr 1
   funext t7
   rw [if_pos (show (i : Int) < (s.size : Int) by omega)]
  ·exact Ev.bind (f := fun k (t4 : List Int) => (zaG.f k (L v) t4).bind fun t7 => (zbJ.f k (g : Int)).bind fun t10 => (zaD.f k t7 t10).bind fun t13 => zay.l0 k s t13 (s.size : Int) ((i + 1 : Nat) : Int)) h10
    (Ev.bind (f := fun k (t7 : List Int) => (zbJ.f k (g : Int)).bind fun t10 => (zaD.f k t7 t10).bind fun t13 => zay.l0 k s t13 (s.size : Int) ((i + 1 : Nat) : Int)) ht
     (Ev.bind (f := fun k (t10 : List Int) => (zaD.f k (L (v * 10)) t10).bind fun t13 => zay.l0 k s t13 (s.size : Int) ((i + 1 : Nat) : Int)) hgL
      (Ev.bind (f := fun k (t13 : List Int) => zay.l0 k s t13 (s.size : Int) ((i + 1 : Nat) : Int)) hp ih)))
theorem zjT (s : ByteArray) (hs : s.size ≤ 45) (h0 : 0 < s.size) (hd : ∀ c ∈ s.data.toList, zif c = true) (hn : 1 < s.size → (s[0]'h0).toNat ≠ 48) : Ev (fun k => zay.f k s) (L (zf5 s.data.toList), 0) := by
 have h := ziT s hs hd s.size 0 (by omega)
 rw [List.take_zero, show zf5 [] = 0 from rfl, zhA] at h
 have hj : Ev (fun k => zay.j0 k s) (L (zf5 s.data.toList), 0) := Ev.step (fun k => by simp only [zay.j0]; rfl) h
 have ht : zbN.f s (⟨#[48, 49, 50, 51, 52, 53, 54, 55, 56, 57]⟩ : ByteArray) = some ⟨#[]⟩ := by
  unfold zbN.f
  rw [if_pos ⟨by omega, by decide⟩, show (⟨#[48, 49, 50, 51, 52, 53, 54, 55, 56, 57]⟩ : ByteArray) = zc3 from rfl, zjR hd]
 have hne : s.toList ≠ [] := fun e => by
  rw [Lib.toList_data] at e
  rw [Lib.size_eq, e] at h0
  simp at h0
 have he : (⟨#[]⟩ : ByteArray).toList = [] := by rw [Lib.toList_data]
 refine Ev.congr (fun k => ?_) hj
 unfold zay.f
 rw [if_neg (by omega), if_neg hne]
 by_cases h1 : 1 < s.size
 ·have hb : ¬ bt s 0 = 48 := by
   unfold bt
   rw [dif_pos (by simpa using h0)]
   have := hn h1
   simp only [Int.toNat_zero]
   omega
  rw [if_pos (by omega), if_pos (by omega), if_neg hb, ht]
  simp only [Option.bind_some, he, if_true]
 ·rw [if_neg (by omega), ht]
  simp only [Option.bind_some, he, if_true]
end Go.Proofs.YtioofhilohmfbaaGreatDoor.P
end
section
open Go Go.RowKit PrintWords
namespace Go.Proofs.YtioofhilohmfbaaGreatDoor.P
def strings_CutPrefix.f (a0 a1 : ByteArray) : Option (ByteArray × Bool) := some (⟨(Lib.trimPrefix a0.data.toList a1.data.toList).toArray⟩, Lib.hasPrefix a0.data.toList a1.data.toList)
theorem strings_CutPrefix.calls (a0 a1 : ByteArray) (r1 : ByteArray) (r2 : Bool) (w : World) (h : strings_CutPrefix.f a0 a1 = some (r1, r2)) :
  Calls Tryz.prog 65 #[.string a0, .string a1] w fun e w' => e = .returned (.tuple #[.string r1, .bool r2]) ∧ Below w.heap.size w w' := by
 unfold strings_CutPrefix.f at h
 injection h with h
 injection h with h1 h2
 subst h1; subst h2
 refine (Tryz.strings_CutPrefix a0 a1 w).mono ?_
 rintro e w' ⟨he, rfl⟩
 exact ⟨he, Below.refl _ _⟩
def strings_HasPrefix.f (a0 a1 : ByteArray) : Option Bool := some (Lib.hasPrefix a0.data.toList a1.data.toList)
theorem strings_HasPrefix.calls (a0 a1 : ByteArray) (r : Bool) (w : World) (h : strings_HasPrefix.f a0 a1 = some r) :
  Calls Tryz.prog 40 #[.string a0, .string a1] w fun e w' => e = .returned (.bool r) ∧ Below w.heap.size w w' := by
 unfold strings_HasPrefix.f at h
 injection h with h
 subst h
 refine (Tryz.strings_HasPrefix a0 a1 w).mono ?_
 rintro e w' ⟨he, rfl⟩
 exact ⟨he, Below.refl _ _⟩
def strings_Repeat.f (a0 : ByteArray) (a1 : Int) : Option ByteArray := if 0 ≤ a1 ∧ a1 ≤ 1000000 ∧ a0.size ≤ 1000000 then some ⟨(Lib.repeatL a0.data.toList a1.toNat).toArray⟩ else none
theorem strings_Repeat.calls (a0 : ByteArray) (a1 : Int) (r : ByteArray) (w : World) (h : strings_Repeat.f a0 a1 = some r) :
  Calls Tryz.prog 17 #[.string a0, .int .i64 a1] w fun e w' => e = .returned (.string r) ∧ Below w.heap.size w w' := by
 unfold strings_Repeat.f at h
 split at h
 ·rename_i hc
  injection h with h
  subst h
  obtain ⟨n, rfl⟩ : ∃ n : Nat, a1 = (n : Int) := ⟨a1.toNat, by omega⟩
  rw [Int.toNat_natCast]
  have hm : a0.size * n ≤ 1000000 * 1000000 := Nat.mul_le_mul hc.2.2 (by omega)
  exact Tryz.strings_Repeat a0 n w (by omega) (by omega)
 ·contradiction
end Go.Proofs.YtioofhilohmfbaaGreatDoor.P
end
section
open Go Go.RowKit Go.Lib PrintWords PrintLast PrintMore YtioofhilohmfbaaGreatDoor.P
namespace Go.Proofs.YtioofhilohmfbaaGreatDoor
theorem zbY (P : Program) (w : World) (a : Addr) (m : Mode) (f : Fn) (x y : Array Value) : (store a (.func f x y) m).run P w = stored P w a (.func f x y) m := run_store P w a _ m rfl
attribute [local go_sem] zbY
theorem zbC (w : World) (o : Obj) (t : TypeId) (f : Fn) : ((w.alloc o).alloc (.cells #[.func f #[] #[]] t)).cell? ⟨w.heap.size + 1, 0, none⟩ = some (.func f #[] #[]) := by
 have h := zah (zcv (w.alloc o) (.cells #[.func f #[] #[]] t)) 0
 rw [show (w.alloc o).heap.size = w.heap.size + 1 by simp] at h
 exact h
def RB (w W : World) : Prop := W.heap[w.heap.size]? = some (.cells #[.bool false, .slice none 0 0, .slice none 0 0] 41)
theorem RB.below {w W W' : World} (h : RB w W) (hb : Below W.heap.size W W') : RB w W' := zak h hb
theorem RB.cells {w W : World} (h : RB w W) : W.cell? ⟨w.heap.size, 0, none⟩ = some (.bool false) ∧ W.cell? ⟨w.heap.size, 1, none⟩ = some (.slice none 0 0) ∧ W.cell? ⟨w.heap.size, 2, none⟩ = some (.slice none 0 0) ∧ W.frozen? ⟨w.heap.size, 0, none⟩ = false ∧ W.frozen? ⟨w.heap.size, 1, none⟩ = false ∧ W.frozen? ⟨w.heap.size, 2, none⟩ = false :=
 ⟨zah h 0, zah h 1, zah h 2, zae h 0, zae h 1, zae h 2⟩
theorem RB.new (w : World) (t : TypeId) (f : Fn) : RB w ((w.alloc (.cells #[.bool false, .slice none 0 0, .slice none 0 0] 41)).alloc (.cells #[.func f #[] #[]] t)) := zai (zcv w _) _
theorem zc6 (w : World) (o o' : Obj) : Below w.heap.size w ((w.alloc o).alloc o') := zam (zam (Below.refl _ _) _) _
theorem RB.put {w W : World} (h : RB w W) (b : Bool) (v1 v2 : Value) : (((W.setCell ⟨w.heap.size, 0, none⟩ (.bool b)).setCell ⟨w.heap.size, 1, none⟩ v1).setCell ⟨w.heap.size, 2, none⟩ v2).heap[w.heap.size]? = some (.cells #[.bool b, v1, v2] 41) :=
 zaB (zaB (zaB h 0 (.bool b) (cs' := #[.bool b, .slice none 0 0, .slice none 0 0]) rfl) 1 v1 (cs' := #[.bool b, v1, .slice none 0 0]) rfl) 2 v2 rfl
theorem za2 {w W : World} (h : Below w.heap.size w W) (b : Bool) (v1 v2 : Value) : Below w.heap.size w (((W.setCell ⟨w.heap.size, 0, none⟩ (.bool b)).setCell ⟨w.heap.size, 1, none⟩ v1).setCell ⟨w.heap.size, 2, none⟩ v2) :=
 zbo (zbo (zbo h (Nat.le_refl _)) (Nat.le_refl _)) (Nat.le_refl _)
theorem RB.zoA {w W : World} {b : Bool} {v1 v2 : Value} (h : W.heap[w.heap.size]? = some (.cells #[.bool b, v1, v2] 41)) : (((W.setCell ⟨w.heap.size, 0, none⟩ (.bool b)).setCell ⟨w.heap.size, 1, none⟩ v1).setCell ⟨w.heap.size, 2, none⟩ v2).heap[w.heap.size]? = some (.cells #[.bool b, v1, v2] 41) :=
 zaB (zaB (zaB h 0 (.bool b) (cs' := #[.bool b, v1, v2]) rfl) 1 v1 (cs' := #[.bool b, v1, v2]) rfl) 2 v2 rfl
theorem zbZ {e base g : Nat} {W : World} {ok : Nat → Prop} {v : Value} {xs : List Int} (h : Kd.R (Kd.int .u32) e W base ok v xs) (hg : g < base) (u0 u1 u2 : Value) : Kd.R (Kd.int .u32) e (((W.setCell ⟨g, 0, none⟩ u0).setCell ⟨g, 1, none⟩ u1).setCell ⟨g, 2, none⟩ u2) base ok v xs :=
 Kd.za7 (Kd.zck (p := ⟨g, 2, none⟩) (Kd.zck (p := ⟨g, 1, none⟩) (Kd.zck (p := ⟨g, 0, none⟩) (Kd.za7 (ok' := fun k => ok k ∧ k ≠ g) (Kd.zdp h) (fun k hk => ⟨hk.1, by have := hk.2.1; omega⟩)) (fun _ hk => hk.2) u0) (fun _ hk => hk.2) u1) (fun _ hk => hk.2) u2) (fun _ hk => hk.1)
def zed (w : World) (e : Ending) (w' : World) : Prop := e = .returned (.tuple #[.agg #[.bool false, .slice none 0 0, .slice none 0 0], .string ⟨#[]⟩, .bool false]) ∧ Below w.heap.size w w'
def zeT (w : World) (rest : ByteArray) (q1 : Bool) (q2 q3 : List Int) (e : Ending) (w' : World) : Prop :=
 ∃ v1 v2 : Value, e = .returned (.tuple #[.agg #[.bool q1, v1, v2], .string rest, .bool true]) ∧ Kd.R (Kd.int .u32) 109 w' w.heap.size (fun k_ => some k_ ≠ v2.ownBlock) v1 q2 ∧ Kd.R (Kd.int .u32) 109 w' w.heap.size (fun k_ => some k_ ≠ v1.ownBlock) v2 q3 ∧ Below w.heap.size w w'
structure zdA (s W R1 R2 P R3 : ByteArray) (has : Bool) : Prop where
 hs : s.size ≤ 1099511627776
 hW : W.size ≤ s.size
 hP : P.size ≤ R2.size
 hR : R2.size ≤ s.size
 T1 : ∀ (ad : Addr) (w : World), w.cell? ad = some (.func (.func 91) #[] #[]) → Calls Tryz.prog 92 #[.string s, .pointer (some ad)] w fun e w' => e = .returned (.string W) ∧ Below w.heap.size w w'
 hR1 : s.extract W.size s.size = R1
 cp : strings_CutPrefix.f R1 ⟨#[46]⟩ = some (R2, has)
 T3 : has = true → ∀ (ad : Addr) (w : World), w.cell? ad = some (.func (.func 91) #[] #[]) → Calls Tryz.prog 92 #[.string R2, .pointer (some ad)] w fun e w' => e = .returned (.string P) ∧ Below w.heap.size w w'
 hN : has = false → P = ⟨#[]⟩ ∧ R3 = R2
 hR3 : has = true → R2.extract P.size R2.size = R3
end Go.Proofs.YtioofhilohmfbaaGreatDoor
end
section
open Go Go.RowKit Go.Lib PrintWords PrintLast PrintMore YtioofhilohmfbaaGreatDoor.P
namespace Go.Proofs.YtioofhilohmfbaaGreatDoor
attribute [local go_sem] zbY
theorem zpD (s W R1 R2 P R3 : ByteArray) (w : World) (hin : zdA s W R1 R2 P R3 false) (h0 : W.toList = []) :
  Calls Tryz.prog 67 #[.string s] w (zed w) := by
 obtain ⟨hs, hWs, hPs, hRs, t1, hR1, hcp, t3, hN, hR3⟩ := hin
 have p1 : ((W.size : Int) ≤ (s.size : Int)) = True := eq_true (by omega)
 have p2 : ((P.size : Int) ≤ (R2.size : Int)) = True := eq_true (by omega)
 have hWb : W.size ≤ 1099511627776 := by omega
 have hPb : P.size ≤ 1099511627776 := by omega
 have T1 := zaa.mk t1
 have CP := zaa.mk hcp
 obtain ⟨rfl, rfl⟩ := hN rfl
 clear t3 hN hR3 t1 hcp hWs hPs hRs hs
 have h0b : W.toList.isEmpty = true := by rw [h0]; rfl
 ·skip
  go_enter Tryz.func67, Tryz.ntmps67
  go_wp2_with (first
   | (go_at_call 92; (with_reducible refine (T1.out _ _ ?hc).mono ?_); (case hc => exact zbC _ _ _ _); rintro e w1 ⟨rfl, hb⟩; have RB1 := zaa.mk (RB.below (RB.new w _ _) hb); have FC := zaa.mk (zaE hb (zbC w _ _ _)); have HB := zaa.mk (zab (zc6 w _ _) hb); clear hb)
   |(go_at_call 65; (with_reducible refine (strings_CutPrefix.calls R1 _ _ _ _ CP.out).mono ?_); rintro e w2 ⟨rfl, hb⟩; have RB2 := zaa.mk (RB1.out.below hb); have FC2 := zaa.mk (zaE hb FC.out); have HB2 := zaa.mk (zab HB.out hb); clear hb RB1 HB FC; obtain ⟨hc0, hc1, hc2, hf0, hf1, hf2⟩ := RB2.out.cells))
  refine bodyPost_ret (zbl rfl _ _ w.heap.size 41 #[.bool false, .slice none 0 0, .slice none 0 0] (0, 0) _ rfl (RB.put RB2.out false (.slice none 0 0) (.slice none 0 0)) Tryz.underlying41 rfl (by kernel_rfl)) rfl ?_
  exact ⟨rfl, za2 HB2.out _ _ _⟩
theorem zpE (s W R1 R2 P R3 : ByteArray) (w : World) (hin : zdA s W R1 R2 P R3 false) (h0 : W.toList ≠ []) (h1 : 1 < W.size) (hw : ∀ h : 0 < W.size, ((W[0]'h).toNat : Int) = 48) :
  Calls Tryz.prog 67 #[.string s] w (zed w) := by
 obtain ⟨hs, hWs, hPs, hRs, t1, hR1, hcp, t3, hN, hR3⟩ := hin
 have p1 : ((W.size : Int) ≤ (s.size : Int)) = True := eq_true (by omega)
 have p2 : ((P.size : Int) ≤ (R2.size : Int)) = True := eq_true (by omega)
 have hWb : W.size ≤ 1099511627776 := by omega
 have hPb : P.size ≤ 1099511627776 := by omega
 have T1 := zaa.mk t1
 have CP := zaa.mk hcp
 obtain ⟨rfl, rfl⟩ := hN rfl
 clear t3 hN hR3 t1 hcp hWs hPs hRs hs
 have h0b : W.toList.isEmpty = false := by cases h : W.toList with | nil => exact absurd h h0 | cons a l => rfl
 have c1 : (1 : Int) < (W.size : Int) := by omega
 have c2 : 0 < W.size := by omega
 ·skip
  go_enter Tryz.func67, Tryz.ntmps67
  go_wp2_with (first
   | (go_at_call 92; (with_reducible refine (T1.out _ _ ?hc).mono ?_); (case hc => exact zbC _ _ _ _); rintro e w1 ⟨rfl, hb⟩; have RB1 := zaa.mk (RB.below (RB.new w _ _) hb); have FC := zaa.mk (zaE hb (zbC w _ _ _)); have HB := zaa.mk (zab (zc6 w _ _) hb); clear hb)
   |(go_at_call 65; (with_reducible refine (strings_CutPrefix.calls R1 _ _ _ _ CP.out).mono ?_); rintro e w2 ⟨rfl, hb⟩; have RB2 := zaa.mk (RB1.out.below hb); have FC2 := zaa.mk (zaE hb FC.out); have HB2 := zaa.mk (zab HB.out hb); clear hb RB1 HB FC; obtain ⟨hc0, hc1, hc2, hf0, hf1, hf2⟩ := RB2.out.cells))
  refine bodyPost_ret (zbl rfl _ _ w.heap.size 41 #[.bool false, .slice none 0 0, .slice none 0 0] (0, 0) _ rfl (RB.put RB2.out false (.slice none 0 0) (.slice none 0 0)) Tryz.underlying41 rfl (by kernel_rfl)) rfl ?_
  exact ⟨rfl, za2 HB2.out _ _ _⟩
theorem znO (s W R1 R2 P R3 : ByteArray) (w : World) (hin : zdA s W R1 R2 P R3 false) (h0 : W.toList ≠ []) (h1 : 1 < W.size) (hw : ∀ h : 0 < W.size, ¬ ((W[0]'h).toNat : Int) = 48) (hl : 40 < W.size) :
  Calls Tryz.prog 67 #[.string s] w (zed w) := by
 obtain ⟨hs, hWs, hPs, hRs, t1, hR1, hcp, t3, hN, hR3⟩ := hin
 have p1 : ((W.size : Int) ≤ (s.size : Int)) = True := eq_true (by omega)
 have p2 : ((P.size : Int) ≤ (R2.size : Int)) = True := eq_true (by omega)
 have hWb : W.size ≤ 1099511627776 := by omega
 have hPb : P.size ≤ 1099511627776 := by omega
 have T1 := zaa.mk t1
 have CP := zaa.mk hcp
 obtain ⟨rfl, rfl⟩ := hN rfl
 clear t3 hN hR3 t1 hcp hWs hPs hRs hs
 have h0b : W.toList.isEmpty = false := by cases h : W.toList with | nil => exact absurd h h0 | cons a l => rfl
 have c1 : (1 : Int) < (W.size : Int) := by omega
 have c2 : 0 < W.size := by omega
 have hwb : ∀ h : 0 < W.size, (((W[0]'h).toNat : Int) == 48) = false := fun h => beq_eq_false_iff_ne.2 (hw h)
 have hl2 : (40 : Int) < (W.size : Int) := by omega
 ·skip
  go_enter Tryz.func67, Tryz.ntmps67
  go_wp2_with (first
   | (go_at_call 92; (with_reducible refine (T1.out _ _ ?hc).mono ?_); (case hc => exact zbC _ _ _ _); rintro e w1 ⟨rfl, hb⟩; have RB1 := zaa.mk (RB.below (RB.new w _ _) hb); have FC := zaa.mk (zaE hb (zbC w _ _ _)); have HB := zaa.mk (zab (zc6 w _ _) hb); clear hb)
   |(go_at_call 65; (with_reducible refine (strings_CutPrefix.calls R1 _ _ _ _ CP.out).mono ?_); rintro e w2 ⟨rfl, hb⟩; have RB2 := zaa.mk (RB1.out.below hb); have FC2 := zaa.mk (zaE hb FC.out); have HB2 := zaa.mk (zab HB.out hb); clear hb RB1 HB FC; obtain ⟨hc0, hc1, hc2, hf0, hf1, hf2⟩ := RB2.out.cells))
  refine bodyPost_ret (zbl rfl _ _ w.heap.size 41 #[.bool false, .slice none 0 0, .slice none 0 0] (0, 0) _ rfl (RB.put RB2.out false (.slice none 0 0) (.slice none 0 0)) Tryz.underlying41 rfl (by kernel_rfl)) rfl ?_
  exact ⟨rfl, za2 HB2.out _ _ _⟩
theorem znP (s W R1 R2 P R3 : ByteArray) (w : World) (hin : zdA s W R1 R2 P R3 false) (h0 : W.toList ≠ []) (h1 : 1 < W.size) (hw : ∀ h : 0 < W.size, ¬ ((W[0]'h).toNat : Int) = 48) (hl : W.size + P.size ≤ 40) (T Z T2 : ByteArray) (q1 : Bool) (q2 q3 l2 l3 : List Int) (kr kd kn : Nat) (g1 : za1.f (W ++ P) ⟨#[48]⟩ = some T) (hT2 : (T.toList = [] ∧ T2 = ⟨#[48]⟩) ∨ (T.toList ≠ [] ∧ T2 = T)) (g2 : zay.f kr T2 = some (l2, 0)) (g3 : strings_Repeat.f ⟨#[48]⟩ (P.size : Int) = some Z) (hZ : Z.size ≤ 1000000) (g4 : zay.f kd (⟨#[49]⟩ ++ Z) = some (l3, 0)) (g5 : zbj.f kn false l2 l3 = some (q1, q2, q3, 0)) :
  Calls Tryz.prog 67 #[.string s] w (zeT w R3 q1 q2 q3) := by
 obtain ⟨hs, hWs, hPs, hRs, t1, hR1, hcp, t3, hN, hR3⟩ := hin
 have p1 : ((W.size : Int) ≤ (s.size : Int)) = True := eq_true (by omega)
 have p2 : ((P.size : Int) ≤ (R2.size : Int)) = True := eq_true (by omega)
 have hWb : W.size ≤ 1099511627776 := by omega
 have hPb : P.size ≤ 1099511627776 := by omega
 have T1 := zaa.mk t1
 have CP := zaa.mk hcp
 obtain ⟨rfl, rfl⟩ := hN rfl
 clear t3 hN hR3 t1 hcp hWs hPs hRs hs
 have G1 := zaa.mk g1
 have G2 := zaa.mk g2
 have G3 := zaa.mk (show strings_Repeat.f ⟨#[48]⟩ 0 = some Z from g3)
 have G4 := zaa.mk g4
 have G5 := zaa.mk g5
 clear g1 g2 g3 g4 g5
 have h0b : W.toList.isEmpty = false := by cases h : W.toList with | nil => exact absurd h h0 | cons a l => rfl
 have c1 : (1 : Int) < (W.size : Int) := by omega
 have c2 : 0 < W.size := by omega
 have hwb : ∀ h : 0 < W.size, (((W[0]'h).toNat : Int) == 48) = false := fun h => beq_eq_false_iff_ne.2 (hw h)
 have hl2 : (W.size : Int) ≤ 40 := by have : (⟨#[]⟩ : ByteArray).size = 0 := rfl; omega
 clear hl
 rcases hT2 with ⟨hT, rfl⟩ | ⟨hT, e⟩
 ·skip
  go_enter Tryz.func67, Tryz.ntmps67
  go_wp2_with (first
   | (go_at_call 92; (with_reducible refine (T1.out _ _ ?hc).mono ?_); (case hc => exact zbC _ _ _ _); rintro e w1 ⟨rfl, hb⟩; have RB1 := zaa.mk (RB.below (RB.new w _ _) hb); have FC := zaa.mk (zaE hb (zbC w _ _ _)); have HB := zaa.mk (zab (zc6 w _ _) hb); clear hb)
   |(go_at_call 65; (with_reducible refine (strings_CutPrefix.calls R1 _ _ _ _ CP.out).mono ?_); rintro e w2 ⟨rfl, hb⟩; have RB2 := zaa.mk (RB1.out.below hb); have FC2 := zaa.mk (zaE hb FC.out); have HB2 := zaa.mk (zab HB.out hb); clear hb RB1 HB FC)
   |(go_at_call 94; (with_reducible refine (za1.calls _ _ _ _ G1.out).mono ?_); rintro e w3 ⟨rfl, hb⟩; have RB3 := zaa.mk (RB2.out.below hb); have HB3 := zaa.mk (zab HB2.out hb); clear hb RB2 HB2)
   |(go_at_call 95; (with_reducible refine (zay.calls kr _ l2 0 _ G2.out).mono ?_); rintro e w5 ⟨v5, rfl, ho, hb⟩; have RB5 := zaa.mk (RB3.out.below hb); have HO5 := zaa.mk ho; have HB5 := zaa.mk (zab HB3.out hb); clear ho hb RB3 HB3; obtain ⟨A5, c5, e5⟩ := Kd.zbe HO5.out; subst e5)
   |(go_at_call 17; (with_reducible refine (strings_Repeat.calls _ _ Z _ G3.out).mono ?_); rintro e w6 ⟨rfl, hb⟩; have RB6 := zaa.mk (RB5.out.below hb); have HO6 := zaa.mk (Kd.zaW HO5.out hb); have HB6 := zaa.mk (zab HB5.out hb); clear hb RB5 HB5 HO5)
   |(go_at_call 95; (with_reducible refine (zay.calls kd (⟨#[49]⟩ ++ Z) l3 0 _ G4.out).mono ?_); rintro e w7 ⟨v7, rfl, ho, hb⟩; have RB7 := zaa.mk (RB6.out.below hb); have HO7 := zaa.mk (Kd.zaW HO6.out hb); have HO8 := zaa.mk ho; have HB7 := zaa.mk (zab HB6.out hb); clear ho hb RB6 HB6 HO6; obtain ⟨A7, c7, e7⟩ := Kd.zbe HO8.out; subst e7)
   |(go_at_call 96; (with_reducible refine (zbj.calls kn false _ _ l2 _ _ l3 q1 q2 q3 0 _ (Kd.zaq HO7.out).2.2 (Kd.zaq HO7.out).2.1 (Kd.zaq HO8.out).2.2 (Kd.zaq HO8.out).2.1 G5.out).mono ?_); rintro e w9 ⟨v1, v2, rfl, h1, h2, hb⟩; have RB9 := zaa.mk (RB7.out.below hb); have Q1 := zaa.mk h1; have Q2 := zaa.mk h2; have HS := zaa.mk (zad HB7.out); have LT := zaa.mk (zbg RB7.out); have HB9 := zaa.mk (zab HB7.out hb); clear h1 h2 hb RB7 HB7 HO7 HO8; obtain ⟨hc0, hc1, hc2, hf0, hf1, hf2⟩ := RB9.out.cells; obtain ⟨B1, d1, f1⟩ := Kd.zaC Q1.out; subst f1; obtain ⟨B2, d2, f2⟩ := Kd.zaC Q2.out; subst f2))
  refine bodyPost_ret (zbl rfl _ _ w.heap.size 41 #[.bool q1, .slice B1 q2.length d1, .slice B2 q3.length d2] (0, 0) _ rfl (RB.zoA (RB.put RB9.out _ _ _)) Tryz.underlying41 rfl (by kernel_rfl)) rfl ?_
  exact ⟨_, _, rfl, Kd.zaz (zbZ (zbZ Q1.out LT.out _ _ _) LT.out _ _ _) HS.out, Kd.zaz (zbZ (zbZ Q2.out LT.out _ _ _) LT.out _ _ _) HS.out, za2 (za2 HB9.out _ _ _) _ _ _⟩
 ·have hTb : T2.toList.isEmpty = false := by rw [e]; cases h : T.toList with | nil => exact absurd h hT | cons a l => rfl
  clear hT
  subst e
  go_enter Tryz.func67, Tryz.ntmps67
  go_wp2_with (first
   | (go_at_call 92; (with_reducible refine (T1.out _ _ ?hc).mono ?_); (case hc => exact zbC _ _ _ _); rintro e w1 ⟨rfl, hb⟩; have RB1 := zaa.mk (RB.below (RB.new w _ _) hb); have FC := zaa.mk (zaE hb (zbC w _ _ _)); have HB := zaa.mk (zab (zc6 w _ _) hb); clear hb)
   |(go_at_call 65; (with_reducible refine (strings_CutPrefix.calls R1 _ _ _ _ CP.out).mono ?_); rintro e w2 ⟨rfl, hb⟩; have RB2 := zaa.mk (RB1.out.below hb); have FC2 := zaa.mk (zaE hb FC.out); have HB2 := zaa.mk (zab HB.out hb); clear hb RB1 HB FC)
   |(go_at_call 94; (with_reducible refine (za1.calls _ _ _ _ G1.out).mono ?_); rintro e w3 ⟨rfl, hb⟩; have RB3 := zaa.mk (RB2.out.below hb); have HB3 := zaa.mk (zab HB2.out hb); clear hb RB2 HB2)
   |(go_at_call 95; (with_reducible refine (zay.calls kr _ l2 0 _ G2.out).mono ?_); rintro e w5 ⟨v5, rfl, ho, hb⟩; have RB5 := zaa.mk (RB3.out.below hb); have HO5 := zaa.mk ho; have HB5 := zaa.mk (zab HB3.out hb); clear ho hb RB3 HB3; obtain ⟨A5, c5, e5⟩ := Kd.zbe HO5.out; subst e5)
   |(go_at_call 17; (with_reducible refine (strings_Repeat.calls _ _ Z _ G3.out).mono ?_); rintro e w6 ⟨rfl, hb⟩; have RB6 := zaa.mk (RB5.out.below hb); have HO6 := zaa.mk (Kd.zaW HO5.out hb); have HB6 := zaa.mk (zab HB5.out hb); clear hb RB5 HB5 HO5)
   |(go_at_call 95; (with_reducible refine (zay.calls kd (⟨#[49]⟩ ++ Z) l3 0 _ G4.out).mono ?_); rintro e w7 ⟨v7, rfl, ho, hb⟩; have RB7 := zaa.mk (RB6.out.below hb); have HO7 := zaa.mk (Kd.zaW HO6.out hb); have HO8 := zaa.mk ho; have HB7 := zaa.mk (zab HB6.out hb); clear ho hb RB6 HB6 HO6; obtain ⟨A7, c7, e7⟩ := Kd.zbe HO8.out; subst e7)
   |(go_at_call 96; (with_reducible refine (zbj.calls kn false _ _ l2 _ _ l3 q1 q2 q3 0 _ (Kd.zaq HO7.out).2.2 (Kd.zaq HO7.out).2.1 (Kd.zaq HO8.out).2.2 (Kd.zaq HO8.out).2.1 G5.out).mono ?_); rintro e w9 ⟨v1, v2, rfl, h1, h2, hb⟩; have RB9 := zaa.mk (RB7.out.below hb); have Q1 := zaa.mk h1; have Q2 := zaa.mk h2; have HS := zaa.mk (zad HB7.out); have LT := zaa.mk (zbg RB7.out); have HB9 := zaa.mk (zab HB7.out hb); clear h1 h2 hb RB7 HB7 HO7 HO8; obtain ⟨hc0, hc1, hc2, hf0, hf1, hf2⟩ := RB9.out.cells; obtain ⟨B1, d1, f1⟩ := Kd.zaC Q1.out; subst f1; obtain ⟨B2, d2, f2⟩ := Kd.zaC Q2.out; subst f2))
  refine bodyPost_ret (zbl rfl _ _ w.heap.size 41 #[.bool q1, .slice B1 q2.length d1, .slice B2 q3.length d2] (0, 0) _ rfl (RB.zoA (RB.put RB9.out _ _ _)) Tryz.underlying41 rfl (by kernel_rfl)) rfl ?_
  exact ⟨_, _, rfl, Kd.zaz (zbZ (zbZ Q1.out LT.out _ _ _) LT.out _ _ _) HS.out, Kd.zaz (zbZ (zbZ Q2.out LT.out _ _ _) LT.out _ _ _) HS.out, za2 (za2 HB9.out _ _ _) _ _ _⟩
theorem znQ (s W R1 R2 P R3 : ByteArray) (w : World) (hin : zdA s W R1 R2 P R3 false) (h0 : W.toList ≠ []) (h1 : W.size = 1) (hl : W.size + P.size ≤ 40) (T Z T2 : ByteArray) (q1 : Bool) (q2 q3 l2 l3 : List Int) (kr kd kn : Nat) (g1 : za1.f (W ++ P) ⟨#[48]⟩ = some T) (hT2 : (T.toList = [] ∧ T2 = ⟨#[48]⟩) ∨ (T.toList ≠ [] ∧ T2 = T)) (g2 : zay.f kr T2 = some (l2, 0)) (g3 : strings_Repeat.f ⟨#[48]⟩ (P.size : Int) = some Z) (hZ : Z.size ≤ 1000000) (g4 : zay.f kd (⟨#[49]⟩ ++ Z) = some (l3, 0)) (g5 : zbj.f kn false l2 l3 = some (q1, q2, q3, 0)) :
  Calls Tryz.prog 67 #[.string s] w (zeT w R3 q1 q2 q3) := by
 obtain ⟨hs, hWs, hPs, hRs, t1, hR1, hcp, t3, hN, hR3⟩ := hin
 have p1 : ((W.size : Int) ≤ (s.size : Int)) = True := eq_true (by omega)
 have p2 : ((P.size : Int) ≤ (R2.size : Int)) = True := eq_true (by omega)
 have hWb : W.size ≤ 1099511627776 := by omega
 have hPb : P.size ≤ 1099511627776 := by omega
 have T1 := zaa.mk t1
 have CP := zaa.mk hcp
 obtain ⟨rfl, rfl⟩ := hN rfl
 clear t3 hN hR3 t1 hcp hWs hPs hRs hs
 have G1 := zaa.mk g1
 have G2 := zaa.mk g2
 have G3 := zaa.mk (show strings_Repeat.f ⟨#[48]⟩ 0 = some Z from g3)
 have G4 := zaa.mk g4
 have G5 := zaa.mk g5
 clear g1 g2 g3 g4 g5
 have h0b : W.toList.isEmpty = false := by cases h : W.toList with | nil => exact absurd h h0 | cons a l => rfl
 have c1 : ¬ (1 : Int) < (W.size : Int) := by omega
 have c3 : ((W.size : Nat) : Int) ≤ 1 := by omega
 clear h1
 have hl2 : (W.size : Int) ≤ 40 := by have : (⟨#[]⟩ : ByteArray).size = 0 := rfl; omega
 clear hl
 rcases hT2 with ⟨hT, rfl⟩ | ⟨hT, e⟩
 ·skip
  go_enter Tryz.func67, Tryz.ntmps67
  go_wp2_with (first
   | (go_at_call 92; (with_reducible refine (T1.out _ _ ?hc).mono ?_); (case hc => exact zbC _ _ _ _); rintro e w1 ⟨rfl, hb⟩; have RB1 := zaa.mk (RB.below (RB.new w _ _) hb); have FC := zaa.mk (zaE hb (zbC w _ _ _)); have HB := zaa.mk (zab (zc6 w _ _) hb); clear hb)
   |(go_at_call 65; (with_reducible refine (strings_CutPrefix.calls R1 _ _ _ _ CP.out).mono ?_); rintro e w2 ⟨rfl, hb⟩; have RB2 := zaa.mk (RB1.out.below hb); have FC2 := zaa.mk (zaE hb FC.out); have HB2 := zaa.mk (zab HB.out hb); clear hb RB1 HB FC)
   |(go_at_call 94; (with_reducible refine (za1.calls _ _ _ _ G1.out).mono ?_); rintro e w3 ⟨rfl, hb⟩; have RB3 := zaa.mk (RB2.out.below hb); have HB3 := zaa.mk (zab HB2.out hb); clear hb RB2 HB2)
   |(go_at_call 95; (with_reducible refine (zay.calls kr _ l2 0 _ G2.out).mono ?_); rintro e w5 ⟨v5, rfl, ho, hb⟩; have RB5 := zaa.mk (RB3.out.below hb); have HO5 := zaa.mk ho; have HB5 := zaa.mk (zab HB3.out hb); clear ho hb RB3 HB3; obtain ⟨A5, c5, e5⟩ := Kd.zbe HO5.out; subst e5)
   |(go_at_call 17; (with_reducible refine (strings_Repeat.calls _ _ Z _ G3.out).mono ?_); rintro e w6 ⟨rfl, hb⟩; have RB6 := zaa.mk (RB5.out.below hb); have HO6 := zaa.mk (Kd.zaW HO5.out hb); have HB6 := zaa.mk (zab HB5.out hb); clear hb RB5 HB5 HO5)
   |(go_at_call 95; (with_reducible refine (zay.calls kd (⟨#[49]⟩ ++ Z) l3 0 _ G4.out).mono ?_); rintro e w7 ⟨v7, rfl, ho, hb⟩; have RB7 := zaa.mk (RB6.out.below hb); have HO7 := zaa.mk (Kd.zaW HO6.out hb); have HO8 := zaa.mk ho; have HB7 := zaa.mk (zab HB6.out hb); clear ho hb RB6 HB6 HO6; obtain ⟨A7, c7, e7⟩ := Kd.zbe HO8.out; subst e7)
   |(go_at_call 96; (with_reducible refine (zbj.calls kn false _ _ l2 _ _ l3 q1 q2 q3 0 _ (Kd.zaq HO7.out).2.2 (Kd.zaq HO7.out).2.1 (Kd.zaq HO8.out).2.2 (Kd.zaq HO8.out).2.1 G5.out).mono ?_); rintro e w9 ⟨v1, v2, rfl, h1, h2, hb⟩; have RB9 := zaa.mk (RB7.out.below hb); have Q1 := zaa.mk h1; have Q2 := zaa.mk h2; have HS := zaa.mk (zad HB7.out); have LT := zaa.mk (zbg RB7.out); have HB9 := zaa.mk (zab HB7.out hb); clear h1 h2 hb RB7 HB7 HO7 HO8; obtain ⟨hc0, hc1, hc2, hf0, hf1, hf2⟩ := RB9.out.cells; obtain ⟨B1, d1, f1⟩ := Kd.zaC Q1.out; subst f1; obtain ⟨B2, d2, f2⟩ := Kd.zaC Q2.out; subst f2))
  refine bodyPost_ret (zbl rfl _ _ w.heap.size 41 #[.bool q1, .slice B1 q2.length d1, .slice B2 q3.length d2] (0, 0) _ rfl (RB.zoA (RB.put RB9.out _ _ _)) Tryz.underlying41 rfl (by kernel_rfl)) rfl ?_
  exact ⟨_, _, rfl, Kd.zaz (zbZ (zbZ Q1.out LT.out _ _ _) LT.out _ _ _) HS.out, Kd.zaz (zbZ (zbZ Q2.out LT.out _ _ _) LT.out _ _ _) HS.out, za2 (za2 HB9.out _ _ _) _ _ _⟩
 ·have hTb : T2.toList.isEmpty = false := by rw [e]; cases h : T.toList with | nil => exact absurd h hT | cons a l => rfl
  clear hT
  subst e
  go_enter Tryz.func67, Tryz.ntmps67
  go_wp2_with (first
   | (go_at_call 92; (with_reducible refine (T1.out _ _ ?hc).mono ?_); (case hc => exact zbC _ _ _ _); rintro e w1 ⟨rfl, hb⟩; have RB1 := zaa.mk (RB.below (RB.new w _ _) hb); have FC := zaa.mk (zaE hb (zbC w _ _ _)); have HB := zaa.mk (zab (zc6 w _ _) hb); clear hb)
   |(go_at_call 65; (with_reducible refine (strings_CutPrefix.calls R1 _ _ _ _ CP.out).mono ?_); rintro e w2 ⟨rfl, hb⟩; have RB2 := zaa.mk (RB1.out.below hb); have FC2 := zaa.mk (zaE hb FC.out); have HB2 := zaa.mk (zab HB.out hb); clear hb RB1 HB FC)
   |(go_at_call 94; (with_reducible refine (za1.calls _ _ _ _ G1.out).mono ?_); rintro e w3 ⟨rfl, hb⟩; have RB3 := zaa.mk (RB2.out.below hb); have HB3 := zaa.mk (zab HB2.out hb); clear hb RB2 HB2)
   |(go_at_call 95; (with_reducible refine (zay.calls kr _ l2 0 _ G2.out).mono ?_); rintro e w5 ⟨v5, rfl, ho, hb⟩; have RB5 := zaa.mk (RB3.out.below hb); have HO5 := zaa.mk ho; have HB5 := zaa.mk (zab HB3.out hb); clear ho hb RB3 HB3; obtain ⟨A5, c5, e5⟩ := Kd.zbe HO5.out; subst e5)
   |(go_at_call 17; (with_reducible refine (strings_Repeat.calls _ _ Z _ G3.out).mono ?_); rintro e w6 ⟨rfl, hb⟩; have RB6 := zaa.mk (RB5.out.below hb); have HO6 := zaa.mk (Kd.zaW HO5.out hb); have HB6 := zaa.mk (zab HB5.out hb); clear hb RB5 HB5 HO5)
   |(go_at_call 95; (with_reducible refine (zay.calls kd (⟨#[49]⟩ ++ Z) l3 0 _ G4.out).mono ?_); rintro e w7 ⟨v7, rfl, ho, hb⟩; have RB7 := zaa.mk (RB6.out.below hb); have HO7 := zaa.mk (Kd.zaW HO6.out hb); have HO8 := zaa.mk ho; have HB7 := zaa.mk (zab HB6.out hb); clear ho hb RB6 HB6 HO6; obtain ⟨A7, c7, e7⟩ := Kd.zbe HO8.out; subst e7)
   |(go_at_call 96; (with_reducible refine (zbj.calls kn false _ _ l2 _ _ l3 q1 q2 q3 0 _ (Kd.zaq HO7.out).2.2 (Kd.zaq HO7.out).2.1 (Kd.zaq HO8.out).2.2 (Kd.zaq HO8.out).2.1 G5.out).mono ?_); rintro e w9 ⟨v1, v2, rfl, h1, h2, hb⟩; have RB9 := zaa.mk (RB7.out.below hb); have Q1 := zaa.mk h1; have Q2 := zaa.mk h2; have HS := zaa.mk (zad HB7.out); have LT := zaa.mk (zbg RB7.out); have HB9 := zaa.mk (zab HB7.out hb); clear h1 h2 hb RB7 HB7 HO7 HO8; obtain ⟨hc0, hc1, hc2, hf0, hf1, hf2⟩ := RB9.out.cells; obtain ⟨B1, d1, f1⟩ := Kd.zaC Q1.out; subst f1; obtain ⟨B2, d2, f2⟩ := Kd.zaC Q2.out; subst f2))
  refine bodyPost_ret (zbl rfl _ _ w.heap.size 41 #[.bool q1, .slice B1 q2.length d1, .slice B2 q3.length d2] (0, 0) _ rfl (RB.zoA (RB.put RB9.out _ _ _)) Tryz.underlying41 rfl (by kernel_rfl)) rfl ?_
  exact ⟨_, _, rfl, Kd.zaz (zbZ (zbZ Q1.out LT.out _ _ _) LT.out _ _ _) HS.out, Kd.zaz (zbZ (zbZ Q2.out LT.out _ _ _) LT.out _ _ _) HS.out, za2 (za2 HB9.out _ _ _) _ _ _⟩
theorem zpF (s W R1 R2 P R3 : ByteArray) (w : World) (hin : zdA s W R1 R2 P R3 true) (h0 : W.toList = []) :
  Calls Tryz.prog 67 #[.string s] w (zed w) := by
 obtain ⟨hs, hWs, hPs, hRs, t1, hR1, hcp, t3, hN, hR3⟩ := hin
 have p1 : ((W.size : Int) ≤ (s.size : Int)) = True := eq_true (by omega)
 have p2 : ((P.size : Int) ≤ (R2.size : Int)) = True := eq_true (by omega)
 have hWb : W.size ≤ 1099511627776 := by omega
 have hPb : P.size ≤ 1099511627776 := by omega
 have T1 := zaa.mk t1
 have CP := zaa.mk hcp
 have T3 := zaa.mk (t3 rfl)
 have hR3 := hR3 rfl
 clear t3 hN t1 hcp hWs hPs hRs hs
 have h0b : W.toList.isEmpty = true := by rw [h0]; rfl
 ·skip
  go_enter Tryz.func67, Tryz.ntmps67
  go_wp2_with (first
   | (go_at_call 92; (with_reducible refine (T1.out _ _ ?hc).mono ?_); (case hc => exact zbC _ _ _ _); rintro e w1 ⟨rfl, hb⟩; have RB1 := zaa.mk (RB.below (RB.new w _ _) hb); have FC := zaa.mk (zaE hb (zbC w _ _ _)); have HB := zaa.mk (zab (zc6 w _ _) hb); clear hb)
   |(go_at_call 65; (with_reducible refine (strings_CutPrefix.calls R1 _ _ _ _ CP.out).mono ?_); rintro e w2 ⟨rfl, hb⟩; have RB2 := zaa.mk (RB1.out.below hb); have FC2 := zaa.mk (zaE hb FC.out); have HB2 := zaa.mk (zab HB.out hb); clear hb RB1 HB FC)
   |(go_at_call 92; (with_reducible refine (T3.out _ _ FC2.out).mono ?_); rintro e w4 ⟨rfl, hb⟩; have n0_ := zaa.mk (RB2.out.below hb); have n1_ := zaa.mk (zab HB2.out hb); clear hb RB2 HB2 FC2; have RB2 := n0_; have HB2 := n1_; clear n0_ n1_; obtain ⟨hc0, hc1, hc2, hf0, hf1, hf2⟩ := RB2.out.cells))
  refine bodyPost_ret (zbl rfl _ _ w.heap.size 41 #[.bool false, .slice none 0 0, .slice none 0 0] (0, 0) _ rfl (RB.put RB2.out false (.slice none 0 0) (.slice none 0 0)) Tryz.underlying41 rfl (by kernel_rfl)) rfl ?_
  exact ⟨rfl, za2 HB2.out _ _ _⟩
theorem zpG (s W R1 R2 P R3 : ByteArray) (w : World) (hin : zdA s W R1 R2 P R3 true) (h0 : W.toList ≠ []) (h1 : 1 < W.size) (hw : ∀ h : 0 < W.size, ((W[0]'h).toNat : Int) = 48) :
  Calls Tryz.prog 67 #[.string s] w (zed w) := by
 obtain ⟨hs, hWs, hPs, hRs, t1, hR1, hcp, t3, hN, hR3⟩ := hin
 have p1 : ((W.size : Int) ≤ (s.size : Int)) = True := eq_true (by omega)
 have p2 : ((P.size : Int) ≤ (R2.size : Int)) = True := eq_true (by omega)
 have hWb : W.size ≤ 1099511627776 := by omega
 have hPb : P.size ≤ 1099511627776 := by omega
 have T1 := zaa.mk t1
 have CP := zaa.mk hcp
 have T3 := zaa.mk (t3 rfl)
 have hR3 := hR3 rfl
 clear t3 hN t1 hcp hWs hPs hRs hs
 have h0b : W.toList.isEmpty = false := by cases h : W.toList with | nil => exact absurd h h0 | cons a l => rfl
 have c1 : (1 : Int) < (W.size : Int) := by omega
 have c2 : 0 < W.size := by omega
 ·skip
  go_enter Tryz.func67, Tryz.ntmps67
  go_wp2_with (first
   | (go_at_call 92; (with_reducible refine (T1.out _ _ ?hc).mono ?_); (case hc => exact zbC _ _ _ _); rintro e w1 ⟨rfl, hb⟩; have RB1 := zaa.mk (RB.below (RB.new w _ _) hb); have FC := zaa.mk (zaE hb (zbC w _ _ _)); have HB := zaa.mk (zab (zc6 w _ _) hb); clear hb)
   |(go_at_call 65; (with_reducible refine (strings_CutPrefix.calls R1 _ _ _ _ CP.out).mono ?_); rintro e w2 ⟨rfl, hb⟩; have RB2 := zaa.mk (RB1.out.below hb); have FC2 := zaa.mk (zaE hb FC.out); have HB2 := zaa.mk (zab HB.out hb); clear hb RB1 HB FC)
   |(go_at_call 92; (with_reducible refine (T3.out _ _ FC2.out).mono ?_); rintro e w4 ⟨rfl, hb⟩; have n0_ := zaa.mk (RB2.out.below hb); have n1_ := zaa.mk (zab HB2.out hb); clear hb RB2 HB2 FC2; have RB2 := n0_; have HB2 := n1_; clear n0_ n1_; obtain ⟨hc0, hc1, hc2, hf0, hf1, hf2⟩ := RB2.out.cells))
  refine bodyPost_ret (zbl rfl _ _ w.heap.size 41 #[.bool false, .slice none 0 0, .slice none 0 0] (0, 0) _ rfl (RB.put RB2.out false (.slice none 0 0) (.slice none 0 0)) Tryz.underlying41 rfl (by kernel_rfl)) rfl ?_
  exact ⟨rfl, za2 HB2.out _ _ _⟩
theorem znR (s W R1 R2 P R3 : ByteArray) (w : World) (hin : zdA s W R1 R2 P R3 true) (h0 : W.toList ≠ []) (h1 : 1 < W.size) (hw : ∀ h : 0 < W.size, ¬ ((W[0]'h).toNat : Int) = 48) (hp : P.toList = []) :
  Calls Tryz.prog 67 #[.string s] w (zed w) := by
 obtain ⟨hs, hWs, hPs, hRs, t1, hR1, hcp, t3, hN, hR3⟩ := hin
 have p1 : ((W.size : Int) ≤ (s.size : Int)) = True := eq_true (by omega)
 have p2 : ((P.size : Int) ≤ (R2.size : Int)) = True := eq_true (by omega)
 have hWb : W.size ≤ 1099511627776 := by omega
 have hPb : P.size ≤ 1099511627776 := by omega
 have T1 := zaa.mk t1
 have CP := zaa.mk hcp
 have T3 := zaa.mk (t3 rfl)
 have hR3 := hR3 rfl
 clear t3 hN t1 hcp hWs hPs hRs hs
 have h0b : W.toList.isEmpty = false := by cases h : W.toList with | nil => exact absurd h h0 | cons a l => rfl
 have c1 : (1 : Int) < (W.size : Int) := by omega
 have c2 : 0 < W.size := by omega
 have hwb : ∀ h : 0 < W.size, (((W[0]'h).toNat : Int) == 48) = false := fun h => beq_eq_false_iff_ne.2 (hw h)
 ·skip
  go_enter Tryz.func67, Tryz.ntmps67
  go_wp2_with (first
   | (go_at_call 92; (with_reducible refine (T1.out _ _ ?hc).mono ?_); (case hc => exact zbC _ _ _ _); rintro e w1 ⟨rfl, hb⟩; have RB1 := zaa.mk (RB.below (RB.new w _ _) hb); have FC := zaa.mk (zaE hb (zbC w _ _ _)); have HB := zaa.mk (zab (zc6 w _ _) hb); clear hb)
   |(go_at_call 65; (with_reducible refine (strings_CutPrefix.calls R1 _ _ _ _ CP.out).mono ?_); rintro e w2 ⟨rfl, hb⟩; have RB2 := zaa.mk (RB1.out.below hb); have FC2 := zaa.mk (zaE hb FC.out); have HB2 := zaa.mk (zab HB.out hb); clear hb RB1 HB FC)
   |(go_at_call 92; (with_reducible refine (T3.out _ _ FC2.out).mono ?_); rintro e w4 ⟨rfl, hb⟩; have n0_ := zaa.mk (RB2.out.below hb); have n1_ := zaa.mk (zab HB2.out hb); clear hb RB2 HB2 FC2; have RB2 := n0_; have HB2 := n1_; clear n0_ n1_; obtain ⟨hc0, hc1, hc2, hf0, hf1, hf2⟩ := RB2.out.cells))
  refine bodyPost_ret (zbl rfl _ _ w.heap.size 41 #[.bool false, .slice none 0 0, .slice none 0 0] (0, 0) _ rfl (RB.put RB2.out false (.slice none 0 0) (.slice none 0 0)) Tryz.underlying41 rfl (by kernel_rfl)) rfl ?_
  exact ⟨rfl, za2 HB2.out _ _ _⟩
theorem znS (s W R1 R2 P R3 : ByteArray) (w : World) (hin : zdA s W R1 R2 P R3 true) (h0 : W.toList ≠ []) (h1 : 1 < W.size) (hw : ∀ h : 0 < W.size, ¬ ((W[0]'h).toNat : Int) = 48) (hp : P.toList ≠ []) (hl : 40 < W.size + P.size) :
  Calls Tryz.prog 67 #[.string s] w (zed w) := by
 obtain ⟨hs, hWs, hPs, hRs, t1, hR1, hcp, t3, hN, hR3⟩ := hin
 have p1 : ((W.size : Int) ≤ (s.size : Int)) = True := eq_true (by omega)
 have p2 : ((P.size : Int) ≤ (R2.size : Int)) = True := eq_true (by omega)
 have hWb : W.size ≤ 1099511627776 := by omega
 have hPb : P.size ≤ 1099511627776 := by omega
 have T1 := zaa.mk t1
 have CP := zaa.mk hcp
 have T3 := zaa.mk (t3 rfl)
 have hR3 := hR3 rfl
 clear t3 hN t1 hcp hWs hPs hRs hs
 have h0b : W.toList.isEmpty = false := by cases h : W.toList with | nil => exact absurd h h0 | cons a l => rfl
 have c1 : (1 : Int) < (W.size : Int) := by omega
 have c2 : 0 < W.size := by omega
 have hwb : ∀ h : 0 < W.size, (((W[0]'h).toNat : Int) == 48) = false := fun h => beq_eq_false_iff_ne.2 (hw h)
 have hpb : P.toList.isEmpty = false := by cases h : P.toList with | nil => exact absurd h hp | cons a l => rfl
 have hl2 : (40 : Int) < (W.size : Int) + (P.size : Int) := by omega
 clear hl
 ·skip
  go_enter Tryz.func67, Tryz.ntmps67
  go_wp2_with (first
   | (go_at_call 92; (with_reducible refine (T1.out _ _ ?hc).mono ?_); (case hc => exact zbC _ _ _ _); rintro e w1 ⟨rfl, hb⟩; have RB1 := zaa.mk (RB.below (RB.new w _ _) hb); have FC := zaa.mk (zaE hb (zbC w _ _ _)); have HB := zaa.mk (zab (zc6 w _ _) hb); clear hb)
   |(go_at_call 65; (with_reducible refine (strings_CutPrefix.calls R1 _ _ _ _ CP.out).mono ?_); rintro e w2 ⟨rfl, hb⟩; have RB2 := zaa.mk (RB1.out.below hb); have FC2 := zaa.mk (zaE hb FC.out); have HB2 := zaa.mk (zab HB.out hb); clear hb RB1 HB FC)
   |(go_at_call 92; (with_reducible refine (T3.out _ _ FC2.out).mono ?_); rintro e w4 ⟨rfl, hb⟩; have n0_ := zaa.mk (RB2.out.below hb); have n1_ := zaa.mk (zab HB2.out hb); clear hb RB2 HB2 FC2; have RB2 := n0_; have HB2 := n1_; clear n0_ n1_; obtain ⟨hc0, hc1, hc2, hf0, hf1, hf2⟩ := RB2.out.cells))
  refine bodyPost_ret (zbl rfl _ _ w.heap.size 41 #[.bool false, .slice none 0 0, .slice none 0 0] (0, 0) _ rfl (RB.put RB2.out false (.slice none 0 0) (.slice none 0 0)) Tryz.underlying41 rfl (by kernel_rfl)) rfl ?_
  exact ⟨rfl, za2 HB2.out _ _ _⟩
theorem znT (s W R1 R2 P R3 : ByteArray) (w : World) (hin : zdA s W R1 R2 P R3 true) (h0 : W.toList ≠ []) (h1 : 1 < W.size) (hw : ∀ h : 0 < W.size, ¬ ((W[0]'h).toNat : Int) = 48) (hp : P.toList ≠ []) (hl : W.size + P.size ≤ 40) (T Z T2 : ByteArray) (q1 : Bool) (q2 q3 l2 l3 : List Int) (kr kd kn : Nat) (g1 : za1.f (W ++ P) ⟨#[48]⟩ = some T) (hT2 : (T.toList = [] ∧ T2 = ⟨#[48]⟩) ∨ (T.toList ≠ [] ∧ T2 = T)) (g2 : zay.f kr T2 = some (l2, 0)) (g3 : strings_Repeat.f ⟨#[48]⟩ (P.size : Int) = some Z) (hZ : Z.size ≤ 1000000) (g4 : zay.f kd (⟨#[49]⟩ ++ Z) = some (l3, 0)) (g5 : zbj.f kn false l2 l3 = some (q1, q2, q3, 0)) :
  Calls Tryz.prog 67 #[.string s] w (zeT w R3 q1 q2 q3) := by
 obtain ⟨hs, hWs, hPs, hRs, t1, hR1, hcp, t3, hN, hR3⟩ := hin
 have p1 : ((W.size : Int) ≤ (s.size : Int)) = True := eq_true (by omega)
 have p2 : ((P.size : Int) ≤ (R2.size : Int)) = True := eq_true (by omega)
 have hWb : W.size ≤ 1099511627776 := by omega
 have hPb : P.size ≤ 1099511627776 := by omega
 have T1 := zaa.mk t1
 have CP := zaa.mk hcp
 have T3 := zaa.mk (t3 rfl)
 have hR3 := hR3 rfl
 clear t3 hN t1 hcp hWs hPs hRs hs
 have G1 := zaa.mk g1
 have G2 := zaa.mk g2
 have G3 := zaa.mk g3
 have G4 := zaa.mk g4
 have G5 := zaa.mk g5
 clear g1 g2 g3 g4 g5
 have h0b : W.toList.isEmpty = false := by cases h : W.toList with | nil => exact absurd h h0 | cons a l => rfl
 have c1 : (1 : Int) < (W.size : Int) := by omega
 have c2 : 0 < W.size := by omega
 have hwb : ∀ h : 0 < W.size, (((W[0]'h).toNat : Int) == 48) = false := fun h => beq_eq_false_iff_ne.2 (hw h)
 have hpb : P.toList.isEmpty = false := by cases h : P.toList with | nil => exact absurd h hp | cons a l => rfl
 have hl2 : (W.size : Int) + (P.size : Int) ≤ 40 := by omega
 clear hl
 rcases hT2 with ⟨hT, rfl⟩ | ⟨hT, e⟩
 ·skip
  go_enter Tryz.func67, Tryz.ntmps67
  go_wp2_with (first
   | (go_at_call 92; (with_reducible refine (T1.out _ _ ?hc).mono ?_); (case hc => exact zbC _ _ _ _); rintro e w1 ⟨rfl, hb⟩; have RB1 := zaa.mk (RB.below (RB.new w _ _) hb); have FC := zaa.mk (zaE hb (zbC w _ _ _)); have HB := zaa.mk (zab (zc6 w _ _) hb); clear hb)
   |(go_at_call 65; (with_reducible refine (strings_CutPrefix.calls R1 _ _ _ _ CP.out).mono ?_); rintro e w2 ⟨rfl, hb⟩; have RB2 := zaa.mk (RB1.out.below hb); have FC2 := zaa.mk (zaE hb FC.out); have HB2 := zaa.mk (zab HB.out hb); clear hb RB1 HB FC)
   |(go_at_call 92; (with_reducible refine (T3.out _ _ FC2.out).mono ?_); rintro e w4 ⟨rfl, hb⟩; have n0_ := zaa.mk (RB2.out.below hb); have n1_ := zaa.mk (zab HB2.out hb); clear hb RB2 HB2 FC2; have RB2 := n0_; have HB2 := n1_; clear n0_ n1_)
   |(go_at_call 94; (with_reducible refine (za1.calls _ _ _ _ G1.out).mono ?_); rintro e w3 ⟨rfl, hb⟩; have RB3 := zaa.mk (RB2.out.below hb); have HB3 := zaa.mk (zab HB2.out hb); clear hb RB2 HB2)
   |(go_at_call 95; (with_reducible refine (zay.calls kr _ l2 0 _ G2.out).mono ?_); rintro e w5 ⟨v5, rfl, ho, hb⟩; have RB5 := zaa.mk (RB3.out.below hb); have HO5 := zaa.mk ho; have HB5 := zaa.mk (zab HB3.out hb); clear ho hb RB3 HB3; obtain ⟨A5, c5, e5⟩ := Kd.zbe HO5.out; subst e5)
   |(go_at_call 17; (with_reducible refine (strings_Repeat.calls _ _ Z _ G3.out).mono ?_); rintro e w6 ⟨rfl, hb⟩; have RB6 := zaa.mk (RB5.out.below hb); have HO6 := zaa.mk (Kd.zaW HO5.out hb); have HB6 := zaa.mk (zab HB5.out hb); clear hb RB5 HB5 HO5)
   |(go_at_call 95; (with_reducible refine (zay.calls kd (⟨#[49]⟩ ++ Z) l3 0 _ G4.out).mono ?_); rintro e w7 ⟨v7, rfl, ho, hb⟩; have RB7 := zaa.mk (RB6.out.below hb); have HO7 := zaa.mk (Kd.zaW HO6.out hb); have HO8 := zaa.mk ho; have HB7 := zaa.mk (zab HB6.out hb); clear ho hb RB6 HB6 HO6; obtain ⟨A7, c7, e7⟩ := Kd.zbe HO8.out; subst e7)
   |(go_at_call 96; (with_reducible refine (zbj.calls kn false _ _ l2 _ _ l3 q1 q2 q3 0 _ (Kd.zaq HO7.out).2.2 (Kd.zaq HO7.out).2.1 (Kd.zaq HO8.out).2.2 (Kd.zaq HO8.out).2.1 G5.out).mono ?_); rintro e w9 ⟨v1, v2, rfl, h1, h2, hb⟩; have RB9 := zaa.mk (RB7.out.below hb); have Q1 := zaa.mk h1; have Q2 := zaa.mk h2; have HS := zaa.mk (zad HB7.out); have LT := zaa.mk (zbg RB7.out); have HB9 := zaa.mk (zab HB7.out hb); clear h1 h2 hb RB7 HB7 HO7 HO8; obtain ⟨hc0, hc1, hc2, hf0, hf1, hf2⟩ := RB9.out.cells; obtain ⟨B1, d1, f1⟩ := Kd.zaC Q1.out; subst f1; obtain ⟨B2, d2, f2⟩ := Kd.zaC Q2.out; subst f2))
  refine bodyPost_ret (zbl rfl _ _ w.heap.size 41 #[.bool q1, .slice B1 q2.length d1, .slice B2 q3.length d2] (0, 0) _ rfl (RB.zoA (RB.put RB9.out _ _ _)) Tryz.underlying41 rfl (by kernel_rfl)) rfl ?_
  exact ⟨_, _, rfl, Kd.zaz (zbZ (zbZ Q1.out LT.out _ _ _) LT.out _ _ _) HS.out, Kd.zaz (zbZ (zbZ Q2.out LT.out _ _ _) LT.out _ _ _) HS.out, za2 (za2 HB9.out _ _ _) _ _ _⟩
 ·have hTb : T2.toList.isEmpty = false := by rw [e]; cases h : T.toList with | nil => exact absurd h hT | cons a l => rfl
  clear hT
  subst e
  go_enter Tryz.func67, Tryz.ntmps67
  go_wp2_with (first
   | (go_at_call 92; (with_reducible refine (T1.out _ _ ?hc).mono ?_); (case hc => exact zbC _ _ _ _); rintro e w1 ⟨rfl, hb⟩; have RB1 := zaa.mk (RB.below (RB.new w _ _) hb); have FC := zaa.mk (zaE hb (zbC w _ _ _)); have HB := zaa.mk (zab (zc6 w _ _) hb); clear hb)
   |(go_at_call 65; (with_reducible refine (strings_CutPrefix.calls R1 _ _ _ _ CP.out).mono ?_); rintro e w2 ⟨rfl, hb⟩; have RB2 := zaa.mk (RB1.out.below hb); have FC2 := zaa.mk (zaE hb FC.out); have HB2 := zaa.mk (zab HB.out hb); clear hb RB1 HB FC)
   |(go_at_call 92; (with_reducible refine (T3.out _ _ FC2.out).mono ?_); rintro e w4 ⟨rfl, hb⟩; have n0_ := zaa.mk (RB2.out.below hb); have n1_ := zaa.mk (zab HB2.out hb); clear hb RB2 HB2 FC2; have RB2 := n0_; have HB2 := n1_; clear n0_ n1_)
   |(go_at_call 94; (with_reducible refine (za1.calls _ _ _ _ G1.out).mono ?_); rintro e w3 ⟨rfl, hb⟩; have RB3 := zaa.mk (RB2.out.below hb); have HB3 := zaa.mk (zab HB2.out hb); clear hb RB2 HB2)
   |(go_at_call 95; (with_reducible refine (zay.calls kr _ l2 0 _ G2.out).mono ?_); rintro e w5 ⟨v5, rfl, ho, hb⟩; have RB5 := zaa.mk (RB3.out.below hb); have HO5 := zaa.mk ho; have HB5 := zaa.mk (zab HB3.out hb); clear ho hb RB3 HB3; obtain ⟨A5, c5, e5⟩ := Kd.zbe HO5.out; subst e5)
   |(go_at_call 17; (with_reducible refine (strings_Repeat.calls _ _ Z _ G3.out).mono ?_); rintro e w6 ⟨rfl, hb⟩; have RB6 := zaa.mk (RB5.out.below hb); have HO6 := zaa.mk (Kd.zaW HO5.out hb); have HB6 := zaa.mk (zab HB5.out hb); clear hb RB5 HB5 HO5)
   |(go_at_call 95; (with_reducible refine (zay.calls kd (⟨#[49]⟩ ++ Z) l3 0 _ G4.out).mono ?_); rintro e w7 ⟨v7, rfl, ho, hb⟩; have RB7 := zaa.mk (RB6.out.below hb); have HO7 := zaa.mk (Kd.zaW HO6.out hb); have HO8 := zaa.mk ho; have HB7 := zaa.mk (zab HB6.out hb); clear ho hb RB6 HB6 HO6; obtain ⟨A7, c7, e7⟩ := Kd.zbe HO8.out; subst e7)
   |(go_at_call 96; (with_reducible refine (zbj.calls kn false _ _ l2 _ _ l3 q1 q2 q3 0 _ (Kd.zaq HO7.out).2.2 (Kd.zaq HO7.out).2.1 (Kd.zaq HO8.out).2.2 (Kd.zaq HO8.out).2.1 G5.out).mono ?_); rintro e w9 ⟨v1, v2, rfl, h1, h2, hb⟩; have RB9 := zaa.mk (RB7.out.below hb); have Q1 := zaa.mk h1; have Q2 := zaa.mk h2; have HS := zaa.mk (zad HB7.out); have LT := zaa.mk (zbg RB7.out); have HB9 := zaa.mk (zab HB7.out hb); clear h1 h2 hb RB7 HB7 HO7 HO8; obtain ⟨hc0, hc1, hc2, hf0, hf1, hf2⟩ := RB9.out.cells; obtain ⟨B1, d1, f1⟩ := Kd.zaC Q1.out; subst f1; obtain ⟨B2, d2, f2⟩ := Kd.zaC Q2.out; subst f2))
  refine bodyPost_ret (zbl rfl _ _ w.heap.size 41 #[.bool q1, .slice B1 q2.length d1, .slice B2 q3.length d2] (0, 0) _ rfl (RB.zoA (RB.put RB9.out _ _ _)) Tryz.underlying41 rfl (by kernel_rfl)) rfl ?_
  exact ⟨_, _, rfl, Kd.zaz (zbZ (zbZ Q1.out LT.out _ _ _) LT.out _ _ _) HS.out, Kd.zaz (zbZ (zbZ Q2.out LT.out _ _ _) LT.out _ _ _) HS.out, za2 (za2 HB9.out _ _ _) _ _ _⟩
theorem znU (s W R1 R2 P R3 : ByteArray) (w : World) (hin : zdA s W R1 R2 P R3 true) (h0 : W.toList ≠ []) (h1 : W.size = 1) (hp : P.toList = []) :
  Calls Tryz.prog 67 #[.string s] w (zed w) := by
 obtain ⟨hs, hWs, hPs, hRs, t1, hR1, hcp, t3, hN, hR3⟩ := hin
 have p1 : ((W.size : Int) ≤ (s.size : Int)) = True := eq_true (by omega)
 have p2 : ((P.size : Int) ≤ (R2.size : Int)) = True := eq_true (by omega)
 have hWb : W.size ≤ 1099511627776 := by omega
 have hPb : P.size ≤ 1099511627776 := by omega
 have T1 := zaa.mk t1
 have CP := zaa.mk hcp
 have T3 := zaa.mk (t3 rfl)
 have hR3 := hR3 rfl
 clear t3 hN t1 hcp hWs hPs hRs hs
 have h0b : W.toList.isEmpty = false := by cases h : W.toList with | nil => exact absurd h h0 | cons a l => rfl
 have c1 : ¬ (1 : Int) < (W.size : Int) := by omega
 have c3 : ((W.size : Nat) : Int) ≤ 1 := by omega
 clear h1
 ·skip
  go_enter Tryz.func67, Tryz.ntmps67
  go_wp2_with (first
   | (go_at_call 92; (with_reducible refine (T1.out _ _ ?hc).mono ?_); (case hc => exact zbC _ _ _ _); rintro e w1 ⟨rfl, hb⟩; have RB1 := zaa.mk (RB.below (RB.new w _ _) hb); have FC := zaa.mk (zaE hb (zbC w _ _ _)); have HB := zaa.mk (zab (zc6 w _ _) hb); clear hb)
   |(go_at_call 65; (with_reducible refine (strings_CutPrefix.calls R1 _ _ _ _ CP.out).mono ?_); rintro e w2 ⟨rfl, hb⟩; have RB2 := zaa.mk (RB1.out.below hb); have FC2 := zaa.mk (zaE hb FC.out); have HB2 := zaa.mk (zab HB.out hb); clear hb RB1 HB FC)
   |(go_at_call 92; (with_reducible refine (T3.out _ _ FC2.out).mono ?_); rintro e w4 ⟨rfl, hb⟩; have n0_ := zaa.mk (RB2.out.below hb); have n1_ := zaa.mk (zab HB2.out hb); clear hb RB2 HB2 FC2; have RB2 := n0_; have HB2 := n1_; clear n0_ n1_; obtain ⟨hc0, hc1, hc2, hf0, hf1, hf2⟩ := RB2.out.cells))
  refine bodyPost_ret (zbl rfl _ _ w.heap.size 41 #[.bool false, .slice none 0 0, .slice none 0 0] (0, 0) _ rfl (RB.put RB2.out false (.slice none 0 0) (.slice none 0 0)) Tryz.underlying41 rfl (by kernel_rfl)) rfl ?_
  exact ⟨rfl, za2 HB2.out _ _ _⟩
theorem znV (s W R1 R2 P R3 : ByteArray) (w : World) (hin : zdA s W R1 R2 P R3 true) (h0 : W.toList ≠ []) (h1 : W.size = 1) (hp : P.toList ≠ []) (hl : 40 < W.size + P.size) :
  Calls Tryz.prog 67 #[.string s] w (zed w) := by
 obtain ⟨hs, hWs, hPs, hRs, t1, hR1, hcp, t3, hN, hR3⟩ := hin
 have p1 : ((W.size : Int) ≤ (s.size : Int)) = True := eq_true (by omega)
 have p2 : ((P.size : Int) ≤ (R2.size : Int)) = True := eq_true (by omega)
 have hWb : W.size ≤ 1099511627776 := by omega
 have hPb : P.size ≤ 1099511627776 := by omega
 have T1 := zaa.mk t1
 have CP := zaa.mk hcp
 have T3 := zaa.mk (t3 rfl)
 have hR3 := hR3 rfl
 clear t3 hN t1 hcp hWs hPs hRs hs
 have h0b : W.toList.isEmpty = false := by cases h : W.toList with | nil => exact absurd h h0 | cons a l => rfl
 have c1 : ¬ (1 : Int) < (W.size : Int) := by omega
 have c3 : ((W.size : Nat) : Int) ≤ 1 := by omega
 clear h1
 have hpb : P.toList.isEmpty = false := by cases h : P.toList with | nil => exact absurd h hp | cons a l => rfl
 have hl2 : (40 : Int) < (W.size : Int) + (P.size : Int) := by omega
 clear hl
 ·skip
  go_enter Tryz.func67, Tryz.ntmps67
  go_wp2_with (first
   | (go_at_call 92; (with_reducible refine (T1.out _ _ ?hc).mono ?_); (case hc => exact zbC _ _ _ _); rintro e w1 ⟨rfl, hb⟩; have RB1 := zaa.mk (RB.below (RB.new w _ _) hb); have FC := zaa.mk (zaE hb (zbC w _ _ _)); have HB := zaa.mk (zab (zc6 w _ _) hb); clear hb)
   |(go_at_call 65; (with_reducible refine (strings_CutPrefix.calls R1 _ _ _ _ CP.out).mono ?_); rintro e w2 ⟨rfl, hb⟩; have RB2 := zaa.mk (RB1.out.below hb); have FC2 := zaa.mk (zaE hb FC.out); have HB2 := zaa.mk (zab HB.out hb); clear hb RB1 HB FC)
   |(go_at_call 92; (with_reducible refine (T3.out _ _ FC2.out).mono ?_); rintro e w4 ⟨rfl, hb⟩; have n0_ := zaa.mk (RB2.out.below hb); have n1_ := zaa.mk (zab HB2.out hb); clear hb RB2 HB2 FC2; have RB2 := n0_; have HB2 := n1_; clear n0_ n1_; obtain ⟨hc0, hc1, hc2, hf0, hf1, hf2⟩ := RB2.out.cells))
  refine bodyPost_ret (zbl rfl _ _ w.heap.size 41 #[.bool false, .slice none 0 0, .slice none 0 0] (0, 0) _ rfl (RB.put RB2.out false (.slice none 0 0) (.slice none 0 0)) Tryz.underlying41 rfl (by kernel_rfl)) rfl ?_
  exact ⟨rfl, za2 HB2.out _ _ _⟩
theorem znW (s W R1 R2 P R3 : ByteArray) (w : World) (hin : zdA s W R1 R2 P R3 true) (h0 : W.toList ≠ []) (h1 : W.size = 1) (hp : P.toList ≠ []) (hl : W.size + P.size ≤ 40) (T Z T2 : ByteArray) (q1 : Bool) (q2 q3 l2 l3 : List Int) (kr kd kn : Nat) (g1 : za1.f (W ++ P) ⟨#[48]⟩ = some T) (hT2 : (T.toList = [] ∧ T2 = ⟨#[48]⟩) ∨ (T.toList ≠ [] ∧ T2 = T)) (g2 : zay.f kr T2 = some (l2, 0)) (g3 : strings_Repeat.f ⟨#[48]⟩ (P.size : Int) = some Z) (hZ : Z.size ≤ 1000000) (g4 : zay.f kd (⟨#[49]⟩ ++ Z) = some (l3, 0)) (g5 : zbj.f kn false l2 l3 = some (q1, q2, q3, 0)) :
  Calls Tryz.prog 67 #[.string s] w (zeT w R3 q1 q2 q3) := by
 obtain ⟨hs, hWs, hPs, hRs, t1, hR1, hcp, t3, hN, hR3⟩ := hin
 have p1 : ((W.size : Int) ≤ (s.size : Int)) = True := eq_true (by omega)
 have p2 : ((P.size : Int) ≤ (R2.size : Int)) = True := eq_true (by omega)
 have hWb : W.size ≤ 1099511627776 := by omega
 have hPb : P.size ≤ 1099511627776 := by omega
 have T1 := zaa.mk t1
 have CP := zaa.mk hcp
 have T3 := zaa.mk (t3 rfl)
 have hR3 := hR3 rfl
 clear t3 hN t1 hcp hWs hPs hRs hs
 have G1 := zaa.mk g1
 have G2 := zaa.mk g2
 have G3 := zaa.mk g3
 have G4 := zaa.mk g4
 have G5 := zaa.mk g5
 clear g1 g2 g3 g4 g5
 have h0b : W.toList.isEmpty = false := by cases h : W.toList with | nil => exact absurd h h0 | cons a l => rfl
 have c1 : ¬ (1 : Int) < (W.size : Int) := by omega
 have c3 : ((W.size : Nat) : Int) ≤ 1 := by omega
 clear h1
 have hpb : P.toList.isEmpty = false := by cases h : P.toList with | nil => exact absurd h hp | cons a l => rfl
 have hl2 : (W.size : Int) + (P.size : Int) ≤ 40 := by omega
 clear hl
 rcases hT2 with ⟨hT, rfl⟩ | ⟨hT, e⟩
 ·skip
  go_enter Tryz.func67, Tryz.ntmps67
  go_wp2_with (first
   | (go_at_call 92; (with_reducible refine (T1.out _ _ ?hc).mono ?_); (case hc => exact zbC _ _ _ _); rintro e w1 ⟨rfl, hb⟩; have RB1 := zaa.mk (RB.below (RB.new w _ _) hb); have FC := zaa.mk (zaE hb (zbC w _ _ _)); have HB := zaa.mk (zab (zc6 w _ _) hb); clear hb)
   |(go_at_call 65; (with_reducible refine (strings_CutPrefix.calls R1 _ _ _ _ CP.out).mono ?_); rintro e w2 ⟨rfl, hb⟩; have RB2 := zaa.mk (RB1.out.below hb); have FC2 := zaa.mk (zaE hb FC.out); have HB2 := zaa.mk (zab HB.out hb); clear hb RB1 HB FC)
   |(go_at_call 92; (with_reducible refine (T3.out _ _ FC2.out).mono ?_); rintro e w4 ⟨rfl, hb⟩; have n0_ := zaa.mk (RB2.out.below hb); have n1_ := zaa.mk (zab HB2.out hb); clear hb RB2 HB2 FC2; have RB2 := n0_; have HB2 := n1_; clear n0_ n1_)
   |(go_at_call 94; (with_reducible refine (za1.calls _ _ _ _ G1.out).mono ?_); rintro e w3 ⟨rfl, hb⟩; have RB3 := zaa.mk (RB2.out.below hb); have HB3 := zaa.mk (zab HB2.out hb); clear hb RB2 HB2)
   |(go_at_call 95; (with_reducible refine (zay.calls kr _ l2 0 _ G2.out).mono ?_); rintro e w5 ⟨v5, rfl, ho, hb⟩; have RB5 := zaa.mk (RB3.out.below hb); have HO5 := zaa.mk ho; have HB5 := zaa.mk (zab HB3.out hb); clear ho hb RB3 HB3; obtain ⟨A5, c5, e5⟩ := Kd.zbe HO5.out; subst e5)
   |(go_at_call 17; (with_reducible refine (strings_Repeat.calls _ _ Z _ G3.out).mono ?_); rintro e w6 ⟨rfl, hb⟩; have RB6 := zaa.mk (RB5.out.below hb); have HO6 := zaa.mk (Kd.zaW HO5.out hb); have HB6 := zaa.mk (zab HB5.out hb); clear hb RB5 HB5 HO5)
   |(go_at_call 95; (with_reducible refine (zay.calls kd (⟨#[49]⟩ ++ Z) l3 0 _ G4.out).mono ?_); rintro e w7 ⟨v7, rfl, ho, hb⟩; have RB7 := zaa.mk (RB6.out.below hb); have HO7 := zaa.mk (Kd.zaW HO6.out hb); have HO8 := zaa.mk ho; have HB7 := zaa.mk (zab HB6.out hb); clear ho hb RB6 HB6 HO6; obtain ⟨A7, c7, e7⟩ := Kd.zbe HO8.out; subst e7)
   |(go_at_call 96; (with_reducible refine (zbj.calls kn false _ _ l2 _ _ l3 q1 q2 q3 0 _ (Kd.zaq HO7.out).2.2 (Kd.zaq HO7.out).2.1 (Kd.zaq HO8.out).2.2 (Kd.zaq HO8.out).2.1 G5.out).mono ?_); rintro e w9 ⟨v1, v2, rfl, h1, h2, hb⟩; have RB9 := zaa.mk (RB7.out.below hb); have Q1 := zaa.mk h1; have Q2 := zaa.mk h2; have HS := zaa.mk (zad HB7.out); have LT := zaa.mk (zbg RB7.out); have HB9 := zaa.mk (zab HB7.out hb); clear h1 h2 hb RB7 HB7 HO7 HO8; obtain ⟨hc0, hc1, hc2, hf0, hf1, hf2⟩ := RB9.out.cells; obtain ⟨B1, d1, f1⟩ := Kd.zaC Q1.out; subst f1; obtain ⟨B2, d2, f2⟩ := Kd.zaC Q2.out; subst f2))
  refine bodyPost_ret (zbl rfl _ _ w.heap.size 41 #[.bool q1, .slice B1 q2.length d1, .slice B2 q3.length d2] (0, 0) _ rfl (RB.zoA (RB.put RB9.out _ _ _)) Tryz.underlying41 rfl (by kernel_rfl)) rfl ?_
  exact ⟨_, _, rfl, Kd.zaz (zbZ (zbZ Q1.out LT.out _ _ _) LT.out _ _ _) HS.out, Kd.zaz (zbZ (zbZ Q2.out LT.out _ _ _) LT.out _ _ _) HS.out, za2 (za2 HB9.out _ _ _) _ _ _⟩
 ·have hTb : T2.toList.isEmpty = false := by rw [e]; cases h : T.toList with | nil => exact absurd h hT | cons a l => rfl
  clear hT
  subst e
  go_enter Tryz.func67, Tryz.ntmps67
  go_wp2_with (first
   | (go_at_call 92; (with_reducible refine (T1.out _ _ ?hc).mono ?_); (case hc => exact zbC _ _ _ _); rintro e w1 ⟨rfl, hb⟩; have RB1 := zaa.mk (RB.below (RB.new w _ _) hb); have FC := zaa.mk (zaE hb (zbC w _ _ _)); have HB := zaa.mk (zab (zc6 w _ _) hb); clear hb)
   |(go_at_call 65; (with_reducible refine (strings_CutPrefix.calls R1 _ _ _ _ CP.out).mono ?_); rintro e w2 ⟨rfl, hb⟩; have RB2 := zaa.mk (RB1.out.below hb); have FC2 := zaa.mk (zaE hb FC.out); have HB2 := zaa.mk (zab HB.out hb); clear hb RB1 HB FC)
   |(go_at_call 92; (with_reducible refine (T3.out _ _ FC2.out).mono ?_); rintro e w4 ⟨rfl, hb⟩; have n0_ := zaa.mk (RB2.out.below hb); have n1_ := zaa.mk (zab HB2.out hb); clear hb RB2 HB2 FC2; have RB2 := n0_; have HB2 := n1_; clear n0_ n1_)
   |(go_at_call 94; (with_reducible refine (za1.calls _ _ _ _ G1.out).mono ?_); rintro e w3 ⟨rfl, hb⟩; have RB3 := zaa.mk (RB2.out.below hb); have HB3 := zaa.mk (zab HB2.out hb); clear hb RB2 HB2)
   |(go_at_call 95; (with_reducible refine (zay.calls kr _ l2 0 _ G2.out).mono ?_); rintro e w5 ⟨v5, rfl, ho, hb⟩; have RB5 := zaa.mk (RB3.out.below hb); have HO5 := zaa.mk ho; have HB5 := zaa.mk (zab HB3.out hb); clear ho hb RB3 HB3; obtain ⟨A5, c5, e5⟩ := Kd.zbe HO5.out; subst e5)
   |(go_at_call 17; (with_reducible refine (strings_Repeat.calls _ _ Z _ G3.out).mono ?_); rintro e w6 ⟨rfl, hb⟩; have RB6 := zaa.mk (RB5.out.below hb); have HO6 := zaa.mk (Kd.zaW HO5.out hb); have HB6 := zaa.mk (zab HB5.out hb); clear hb RB5 HB5 HO5)
   |(go_at_call 95; (with_reducible refine (zay.calls kd (⟨#[49]⟩ ++ Z) l3 0 _ G4.out).mono ?_); rintro e w7 ⟨v7, rfl, ho, hb⟩; have RB7 := zaa.mk (RB6.out.below hb); have HO7 := zaa.mk (Kd.zaW HO6.out hb); have HO8 := zaa.mk ho; have HB7 := zaa.mk (zab HB6.out hb); clear ho hb RB6 HB6 HO6; obtain ⟨A7, c7, e7⟩ := Kd.zbe HO8.out; subst e7)
   |(go_at_call 96; (with_reducible refine (zbj.calls kn false _ _ l2 _ _ l3 q1 q2 q3 0 _ (Kd.zaq HO7.out).2.2 (Kd.zaq HO7.out).2.1 (Kd.zaq HO8.out).2.2 (Kd.zaq HO8.out).2.1 G5.out).mono ?_); rintro e w9 ⟨v1, v2, rfl, h1, h2, hb⟩; have RB9 := zaa.mk (RB7.out.below hb); have Q1 := zaa.mk h1; have Q2 := zaa.mk h2; have HS := zaa.mk (zad HB7.out); have LT := zaa.mk (zbg RB7.out); have HB9 := zaa.mk (zab HB7.out hb); clear h1 h2 hb RB7 HB7 HO7 HO8; obtain ⟨hc0, hc1, hc2, hf0, hf1, hf2⟩ := RB9.out.cells; obtain ⟨B1, d1, f1⟩ := Kd.zaC Q1.out; subst f1; obtain ⟨B2, d2, f2⟩ := Kd.zaC Q2.out; subst f2))
  refine bodyPost_ret (zbl rfl _ _ w.heap.size 41 #[.bool q1, .slice B1 q2.length d1, .slice B2 q3.length d2] (0, 0) _ rfl (RB.zoA (RB.put RB9.out _ _ _)) Tryz.underlying41 rfl (by kernel_rfl)) rfl ?_
  exact ⟨_, _, rfl, Kd.zaz (zbZ (zbZ Q1.out LT.out _ _ _) LT.out _ _ _) HS.out, Kd.zaz (zbZ (zbZ Q2.out LT.out _ _ _) LT.out _ _ _) HS.out, za2 (za2 HB9.out _ _ _) _ _ _⟩
end Go.Proofs.YtioofhilohmfbaaGreatDoor
end
section
open Go Go.RowKit Go.Lib PrintWords PrintLast PrintMore YtioofhilohmfbaaGreatDoor.P
namespace Go.Proofs.YtioofhilohmfbaaGreatDoor
theorem zig (p : UInt8 → Bool) : ∀ l : List UInt8, ∀ c ∈ l.take (runN p l), p c = true
 | [], c, h => by simp at h
 | a :: t, c, h => by
  rw [runN] at h
  by_cases ha : p a = true
  ·rw [if_pos ha, Nat.add_comm, List.take_succ_cons] at h
   rcases List.mem_cons.1 h with h1 | h1
   ·rw [h1]; exact ha
   ·exact zig p t c h1
  ·rw [if_neg ha] at h
   simp at h
theorem zkA (s : ByteArray) (i j : Nat) : (s.extract i j).data.toList = (s.data.toList.drop i).take (j - i) := by
 rw [ByteArray.data_extract, Array.toList_extract, List.extract_eq_take_drop]
theorem zkB (s : ByteArray) (n : Nat) : (s.extract 0 n).data.toList = s.data.toList.take n := by
 rw [zkA, List.drop_zero, Nat.sub_zero]
theorem znX (s : ByteArray) (n : Nat) : (s.extract n s.size).data.toList = s.data.toList.drop n := by
 rw [zkA, List.take_of_length_le (by rw [List.length_drop, Lib.size_eq]; omega)]
theorem ziU {a b : ByteArray} (h : a.data.toList = b.data.toList) : a = b := by
 cases a with | mk a => cases b with | mk b => exact congrArg ByteArray.mk (Array.toList_inj.1 h)
theorem zmC {l m : List UInt8} (h : zcJ l = true) (hs : ∀ c ∈ m, c ∈ l) : zcJ m = true :=
 List.all_eq_true.2 fun c hc => List.all_eq_true.1 h c (hs c hc)
def zcX (s : ByteArray) : ByteArray := s.extract 0 (zec s.data.toList)
def zeq (s : ByteArray) : ByteArray := s.extract (zcX s).size s.size
def zcN (s : ByteArray) : Bool := Lib.hasPrefix (zeq s).data.toList [46]
def zcG (s : ByteArray) : ByteArray := ⟨(Lib.trimPrefix (zeq s).data.toList [46]).toArray⟩
def zb3 (s : ByteArray) : ByteArray := if zcN s = true then (zcG s).extract 0 (zec (zcG s).data.toList) else ⟨#[]⟩
def zee (s : ByteArray) : ByteArray := if zcN s = true then (zcG s).extract (zb3 s).size (zcG s).size else zcG s
def zna (W : ByteArray) (has : Bool) (P : ByteArray) : Bool := W.data.toList.isEmpty || (decide (1 < W.size) && (bt W 0 == 48)) || (has && P.data.toList.isEmpty) || decide (40 < W.size + P.size)
def zdv (s : ByteArray) : Option (ByteArray × Nat × Nat) := if zna (zcX s) (zcN s) (zb3 s) = true then none else some (zee s, zf5 ((zcX s).data.toList ++ (zb3 s).data.toList), 10 ^ (zb3 s).size)
theorem zhC (s : ByteArray) : (zcX s).data.toList = s.data.toList.take (zec s.data.toList) := zkB _ _
theorem zhD (s : ByteArray) : (zcX s).size = zec s.data.toList := by
 rw [Lib.size_eq, zhC, List.length_take]
 exact Nat.min_eq_left (zdc _ _)
theorem zjU (s : ByteArray) : (zeq s).data.toList = s.data.toList.drop (zec s.data.toList) := by
 unfold zeq
 rw [znX, zhD]
theorem zhf (l : List UInt8) : (Lib.trimPrefix l [46]).length ≤ l.length ∧ ∀ c ∈ Lib.trimPrefix l [46], c ∈ l := by
 unfold Lib.trimPrefix
 split
 ·exact ⟨by rw [List.length_drop]; omega, fun c hc => List.mem_of_mem_drop hc⟩
 ·exact ⟨Nat.le_refl _, fun c hc => hc⟩
theorem zjV (s : ByteArray) : (zcG s).data.toList = Lib.trimPrefix (zeq s).data.toList [46] := by simp [zcG]
theorem zfE (s : ByteArray) : (zcG s).size ≤ s.size ∧ ∀ c ∈ (zcG s).data.toList, c ∈ s.data.toList := by
 have h := zhf (zeq s).data.toList
 rw [Lib.size_eq, zjV, Lib.size_eq]
 rw [zjU] at h ⊢
 exact ⟨by have := h.1; rw [List.length_drop] at this; omega, fun c hc => List.mem_of_mem_drop (h.2 c hc)⟩
theorem zhE (s : ByteArray) (h : zcN s = true) : (zb3 s).data.toList = (zcG s).data.toList.take (zec (zcG s).data.toList) := by
 unfold zb3
 rw [if_pos h, zkB]
theorem zli (s : ByteArray) : (zb3 s).size ≤ (zcG s).size := by
 by_cases h : zcN s = true
 ·rw [Lib.size_eq, zhE s h, List.length_take, Lib.size_eq]
  omega
 ·unfold zb3
  rw [if_neg h]
  exact Nat.zero_le _
theorem zfh (s : ByteArray) : ∀ c ∈ (zcX s).data.toList ++ (zb3 s).data.toList, zif c = true := fun c hc => by
 rcases List.mem_append.1 hc with h | h
 ·rw [zhC] at h
  exact zig _ _ c h
 ·by_cases hh : zcN s = true
  ·rw [zhE s hh] at h
   exact zig _ _ c h
  ·unfold zb3 at h
   rw [if_neg hh] at h
   simp at h
theorem zjW (s : ByteArray) (hs : s.size ≤ 1099511627776) (ha : zcJ s.data.toList = true) : zdA s (zcX s) (zeq s) (zcG s) (zb3 s) (zee s) (zcN s) where
 hs := hs
 hW := by rw [zhD, Lib.size_eq]; exact zdc _ _
 hP := zli s
 hR := (zfE s).1
 T1 := fun ad w hc => zgL s (by omega) ha ad w hc
 hR1 := rfl
 cp := rfl
 T3 := fun hh ad w hc => by
  have h := zgL (zcG s) (by have := (zfE s).1; omega) (zmC ha (zfE s).2) ad w hc
  unfold zb3
  rw [if_pos hh]
  exact h
 hN := fun hh => by
  unfold zb3 zee
  rw [if_neg (by rw [hh]; decide), if_neg (by rw [hh]; decide)]
  exact ⟨rfl, rfl⟩
 hR3 := fun hh => by
  unfold zee
  rw [if_pos hh]
theorem zhF : ∀ (l m : List UInt8), (∀ c ∈ l, c = 48) → zf5 (l ++ m) = zf5 m
 | [], m, _ => rfl
 | a :: t, m, h => by
  have ih := zhF t m (fun c hc => h c (by simp [hc]))
  have ha := h a (by simp)
  subst ha
  show zf5 (48 :: (t ++ m)) = _
  have : zf5 (48 :: (t ++ m)) = zf5 (t ++ m) := rfl
  rw [this, ih]
theorem zih : ∀ n : Nat, zf5 (49 :: List.replicate n 48) = 10 ^ n
 | 0 => rfl
 | n + 1 => by
  rw [List.replicate_succ', ← List.cons_append, zfe, zih n, Nat.pow_succ]
  rfl
theorem zjX (l : List UInt8) : ∃ k, l = List.replicate k 48 ++ Lib.trimLeftS l [48] ∧ ((Lib.trimLeftS l [48]).head? ≠ some 48) := by
 unfold Lib.trimLeftS
 induction l with
 | nil => exact ⟨0, rfl, by simp⟩
 | cons a t ih =>
  by_cases h : a = 48
  ·subst h
   obtain ⟨k, hk, hh⟩ := ih
   refine ⟨k + 1, ?_, ?_⟩
   ·rw [List.dropWhile_cons, if_pos (by decide), List.replicate_succ, List.cons_append, ← hk]
   ·rw [List.dropWhile_cons, if_pos (by decide)]
    exact hh
  ·refine ⟨0, ?_, ?_⟩
   ·rw [List.dropWhile_cons, if_neg (by simp [h])]
    rfl
   ·rw [List.dropWhile_cons, if_neg (by simp [h])]
    simpa using h
theorem zlj {v d : Nat} (hv : big 8 v) (hd : big 8 d) (h0 : 0 < d) : zf4 false v d = (false, L (v / Nat.gcd v d), L (d / Nat.gcd v d), 0) := by
 have m := fun {j : Nat} (h : big 8 j) => zbt h (show 8 ≤ 64 by decide)
 have h1 := zcW hv (Nat.div_le_self v (Nat.gcd v d))
 have h2 := zcW hd (Nat.div_le_self d (Nat.gcd v d))
 have l1 := zd3 (m h1) h1
 have l2 := zd3 (m h2) h2
 unfold zf4
 rw [if_neg (by omega), Bool.false_and]
theorem zhG : ∀ n : Nat, Lib.repeatL (⟨#[48]⟩ : ByteArray).data.toList n = List.replicate n 48
 | 0 => rfl
 | n + 1 => by rw [Lib.repeatL, zhG n]; rfl
theorem zmD (s : ByteArray) (hb : zna (zcX s) (zcN s) (zb3 s) = false) :
  ∃ (T Z T2 : ByteArray) (l2 l3 : List Int) (kr kd kn : Nat), za1.f (zcX s ++ zb3 s) ⟨#[48]⟩ = some T ∧ ((T.toList = [] ∧ T2 = ⟨#[48]⟩) ∨ (T.toList ≠ [] ∧ T2 = T)) ∧ zay.f kr T2 = some (l2, 0) ∧ strings_Repeat.f ⟨#[48]⟩ ((zb3 s).size : Int) = some Z ∧ Z.size ≤ 1000000 ∧ zay.f kd (⟨#[49]⟩ ++ Z) = some (l3, 0) ∧
   zbj.f kn false l2 l3 = some ((zf4 false (zf5 ((zcX s).data.toList ++ (zb3 s).data.toList)) (10 ^ (zb3 s).size)).1, (zf4 false (zf5 ((zcX s).data.toList ++ (zb3 s).data.toList)) (10 ^ (zb3 s).size)).2.1, (zf4 false (zf5 ((zcX s).data.toList ++ (zb3 s).data.toList)) (10 ^ (zb3 s).size)).2.2.1, 0) := by
 have hd := zfh s
 have hsz : (zcX s).size + (zb3 s).size ≤ 40 := by
  unfold zna at hb
  simp only [Bool.or_eq_false_iff, decide_eq_false_iff_not] at hb
  omega
 obtain ⟨D, hD⟩ : ∃ D, (zcX s).data.toList ++ (zb3 s).data.toList = D := ⟨_, rfl⟩
 have hDl : D.length ≤ 40 := by rw [← hD, List.length_append, ← Lib.size_eq, ← Lib.size_eq]; exact hsz
 rw [hD] at hd ⊢
 have hWP : (zcX s ++ zb3 s).data.toList = D := by rw [ByteArray.data_append, Array.toList_append, hD]
 obtain ⟨k, hk, hh⟩ := zjX D
 have hTl : za1.f (zcX s ++ zb3 s) ⟨#[48]⟩ = some ⟨(Lib.trimLeftS D [48]).toArray⟩ := by
  unfold za1.f
  rw [if_pos (by decide), hWP]
 have hTlen : (Lib.trimLeftS D [48]).length ≤ 40 := by
  have := congrArg List.length hk
  rw [List.length_append] at this
  omega
 have hTd : ∀ c ∈ Lib.trimLeftS D [48], zif c = true := fun c hc => hd c (by rw [hk]; exact List.mem_append_right _ hc)
 have hv : zf5 D = zf5 (Lib.trimLeftS D [48]) := by
  conv => lhs; rw [hk]
  exact zhF _ _ (fun c hc => List.eq_of_mem_replicate hc)
 -- the first text that is read
 obtain ⟨T2, hT2, hread⟩ : ∃ T2 : ByteArray, (((⟨(Lib.trimLeftS D [48]).toArray⟩ : ByteArray).toList = [] ∧ T2 = ⟨#[48]⟩) ∨ ((⟨(Lib.trimLeftS D [48]).toArray⟩ : ByteArray).toList ≠ [] ∧ T2 = ⟨(Lib.trimLeftS D [48]).toArray⟩)) ∧ Ev (fun k => zay.f k T2) (L (zf5 D), 0) := by
  rw [hv]
  by_cases he : Lib.trimLeftS D [48] = []
  ·refine ⟨⟨#[48]⟩, .inl ⟨by rw [Lib.toList_data, he], rfl⟩, ?_⟩
   rw [he]
   exact zjT ⟨#[48]⟩ (by decide) (by decide) (by decide) (by decide)
  ·refine ⟨_, .inr ⟨by rw [Lib.toList_data]; simpa using he, rfl⟩, ?_⟩
   have hs0 : 0 < (⟨(Lib.trimLeftS D [48]).toArray⟩ : ByteArray).size := by
    rw [Lib.size_eq]
    exact List.length_pos_iff.2 (by simpa using he)
   have h := zjT ⟨(Lib.trimLeftS D [48]).toArray⟩ (by rw [Lib.size_eq]; simp; omega) hs0 (by simpa using hTd) (fun _ hc => hh (by
    cases hl : Lib.trimLeftS D [48] with
    | nil => exact absurd hl he
    | cons a t =>
     have hc' : a.toNat = 48 := by
      have e : (⟨(Lib.trimLeftS D [48]).toArray⟩ : ByteArray)[0]'hs0 = a := by
       show ((Lib.trimLeftS D [48]).toArray)[0]'_ = a
       simp [hl]
      rw [e] at hc
      exact hc
     rw [List.head?_cons]
     congr 1
     exact UInt8.toNat_inj.1 hc'))
   simpa using h
 -- the second one
 have hZ : strings_Repeat.f ⟨#[48]⟩ ((zb3 s).size : Int) = some ⟨(List.replicate (zb3 s).size 48).toArray⟩ := by
  have h1 : (⟨#[48]⟩ : ByteArray).size = 1 := rfl
  unfold strings_Repeat.f
  rw [if_pos ⟨by omega, by omega, by omega⟩, Int.toNat_natCast, zhG]
 have hZl : ((⟨#[49]⟩ : ByteArray) ++ ⟨(List.replicate (zb3 s).size 48).toArray⟩).data.toList = 49 :: List.replicate (zb3 s).size 48 := by
  rw [ByteArray.data_append, Array.toList_append]
  simp
 have hread2 : Ev (fun k => zay.f k ((⟨#[49]⟩ : ByteArray) ++ ⟨(List.replicate (zb3 s).size 48).toArray⟩)) (L (10 ^ (zb3 s).size), 0) := by
  have hsz2 : ((⟨#[49]⟩ : ByteArray) ++ ⟨(List.replicate (zb3 s).size 48).toArray⟩).size = (zb3 s).size + 1 := by rw [Lib.size_eq, hZl, List.length_cons, List.length_replicate]
  have h := zjT ((⟨#[49]⟩ : ByteArray) ++ ⟨(List.replicate (zb3 s).size 48).toArray⟩) (by omega) (by omega) (by
   rw [hZl]
   intro c hc
   rcases List.mem_cons.1 hc with h | h
   ·rw [h]; decide
   ·rw [List.eq_of_mem_replicate h]; decide) (fun _ => by
   have e : ((⟨#[49]⟩ : ByteArray) ++ ⟨(List.replicate (zb3 s).size 48).toArray⟩).data.toList[0]'(by rw [hZl]; simp) = 49 := by simp
   intro h
   have : (((⟨#[49]⟩ : ByteArray) ++ ⟨(List.replicate (zb3 s).size 48).toArray⟩)[0]'(by omega)) = 49 := e
   rw [this] at h
   exact absurd h (by decide))
  rw [hZl, zih] at h
  exact h
 have b1 := zff (l := D) (by omega) hd
 have b2 : big 8 (10 ^ (zb3 s).size) := by
  have := zff (l := 49 :: List.replicate (zb3 s).size 48) (by rw [List.length_cons, List.length_replicate]; omega) (by
   intro c hc
   rcases List.mem_cons.1 hc with h | h
   ·rw [h]; decide
   ·rw [List.eq_of_mem_replicate h]; decide)
  rwa [zih] at this
 have h10 : 0 < 10 ^ (zb3 s).size := Nat.pow_pos (by decide)
 have hnew := zqt false (zf5 D) (10 ^ (zb3 s).size) (zbt b1 (by decide)) (zbt b2 (by decide)) h10
 obtain ⟨kr, hkr⟩ := hread.rounds
 obtain ⟨kd, hkd⟩ := hread2.rounds
 obtain ⟨kn, hkn⟩ := hnew.rounds
 refine ⟨_, _, T2, _, _, kr, kd, kn, hTl, hT2, hkr, hZ, ?_, hkd, ?_⟩
 ·rw [Lib.size_eq]
  simp
  omega
 ·rw [hkn, zlj b1 b2 h10]
theorem zmE (W : ByteArray) (h : 0 < W.size) : bt W 0 = ((W[0]'h).toNat : Int) := by
 unfold bt
 rw [dif_pos (by simpa using h)]
 rfl
theorem ziV (s : ByteArray) (hs : s.size ≤ 1099511627776) (ha : zcJ s.data.toList = true) (w : World) (h : zdv s = none) : Calls Tryz.prog 67 #[.string s] w (zed w) := by
 have hin := zjW s hs ha
 have hb : zna (zcX s) (zcN s) (zb3 s) = true := by
  unfold zdv at h
  split at h
  ·assumption
  ·cases h
 generalize zcX s = W at *
 generalize zeq s = R1 at *
 generalize zcG s = R2 at *
 generalize zb3 s = P at *
 generalize zee s = R3 at *
 generalize zcN s = has at *
 clear h
 unfold zna at hb
 by_cases h0 : W.toList = []
 ·cases has
  ·exact zpD s W R1 R2 P R3 w hin h0
  ·exact zpF s W R1 R2 P R3 w hin h0
 have h0d : W.data.toList ≠ [] := by rwa [← Lib.toList_data]
 have hW0 : 0 < W.size := by rw [Lib.size_eq]; exact List.length_pos_iff.2 h0d
 have he : W.data.toList.isEmpty = false := by cases h : W.data.toList with | nil => exact absurd h h0d | cons a l => rfl
 rw [he, Bool.false_or] at hb
 have hPn : P.toList ≠ [] → P.data.toList.isEmpty = false := fun h => by
  rw [Lib.toList_data] at h
  cases hl : P.data.toList with | nil => exact absurd hl h | cons a l => rfl
 by_cases h1 : 1 < W.size
 ·by_cases hw : ((W[0]'hW0).toNat : Int) = 48
  ·cases has
   ·exact zpE s W R1 R2 P R3 w hin h0 h1 (fun _ => hw)
   ·exact zpG s W R1 R2 P R3 w hin h0 h1 (fun _ => hw)
  ·rw [zmE W hW0, beq_eq_false_iff_ne.2 hw, Bool.and_false, Bool.false_or] at hb
   cases has
   ·have hP0 := (hin.hN rfl).1
    rw [hP0, Bool.false_and, Bool.false_or] at hb
    exact znO s W R1 R2 P R3 w hin h0 h1 (fun _ => hw) (by have := of_decide_eq_true hb; have : (⟨#[]⟩ : ByteArray).size = 0 := rfl; omega)
   ·by_cases hp : P.toList = []
    ·exact znR s W R1 R2 P R3 w hin h0 h1 (fun _ => hw) hp
    ·rw [hPn hp, Bool.and_false, Bool.false_or] at hb
     exact znS s W R1 R2 P R3 w hin h0 h1 (fun _ => hw) hp (of_decide_eq_true hb)
 ·rw [decide_eq_false h1, Bool.false_and, Bool.false_or] at hb
  cases has
  ·have hP0 := (hin.hN rfl).1
   rw [hP0, Bool.false_and, Bool.false_or] at hb
   have := of_decide_eq_true hb
   have : (⟨#[]⟩ : ByteArray).size = 0 := rfl
   omega
  ·by_cases hp : P.toList = []
   ·exact znU s W R1 R2 P R3 w hin h0 (by omega) hp
   ·rw [hPn hp, Bool.and_false, Bool.false_or] at hb
    exact znV s W R1 R2 P R3 w hin h0 (by omega) hp (of_decide_eq_true hb)
theorem zgN (s : ByteArray) (hs : s.size ≤ 1099511627776) (ha : zcJ s.data.toList = true) (w : World) (rest : ByteArray) (v d : Nat) (h : zdv s = some (rest, v, d)) :
  Calls Tryz.prog 67 #[.string s] w (zeT w rest (zf4 false v d).1 (zf4 false v d).2.1 (zf4 false v d).2.2.1) := by
 have hin := zjW s hs ha
 unfold zdv at h
 by_cases hbt : zna (zcX s) (zcN s) (zb3 s) = true
 ·rw [if_pos hbt] at h; cases h
 rw [if_neg hbt] at h
 injection h with h
 injection h with e1 h
 injection h with e2 e3
 have hb : zna (zcX s) (zcN s) (zb3 s) = false := by simpa using hbt
 obtain ⟨T, Z, T2, l2, l3, kr, kd, kn, g1, gT, g2, g3, gZ, g4, g5⟩ := zmD s hb
 rw [e2, e3] at g5
 rw [e1] at hin
 clear e1 e2 e3 hbt
 generalize zcX s = W at *
 generalize zeq s = R1 at *
 generalize zcG s = R2 at *
 generalize zb3 s = P at *
 generalize zcN s = has at *
 unfold zna at hb
 simp only [Bool.or_eq_false_iff, decide_eq_false_iff_not] at hb
 obtain ⟨⟨⟨hb1, hb2⟩, hb3⟩, hb4⟩ := hb
 have h0 : W.toList ≠ [] := fun e => by rw [Lib.toList_data] at e; rw [e] at hb1; cases hb1
 have h0d : W.data.toList ≠ [] := by rwa [← Lib.toList_data]
 have hW0 : 0 < W.size := by rw [Lib.size_eq]; exact List.length_pos_iff.2 h0d
 by_cases h1 : 1 < W.size
 ·have hw : ¬ ((W[0]'hW0).toNat : Int) = 48 := fun e => by
   rw [decide_eq_true h1, zmE W hW0, e] at hb2
   cases hb2
  cases has
  ·exact znP s W R1 R2 P rest w hin h0 h1 (fun _ => hw) (by omega) T Z T2 _ _ _ l2 l3 kr kd kn g1 gT g2 g3 gZ g4 g5
  ·have hp : P.toList ≠ [] := fun e => by rw [Lib.toList_data] at e; rw [e] at hb3; cases hb3
   exact znT s W R1 R2 P rest w hin h0 h1 (fun _ => hw) hp (by omega) T Z T2 _ _ _ l2 l3 kr kd kn g1 gT g2 g3 gZ g4 g5
 ·cases has
  ·exact znQ s W R1 R2 P rest w hin h0 (by omega) (by omega) T Z T2 _ _ _ l2 l3 kr kd kn g1 gT g2 g3 gZ g4 g5
  ·have hp : P.toList ≠ [] := fun e => by rw [Lib.toList_data] at e; rw [e] at hb3; cases hb3
   exact znW s W R1 R2 P rest w hin h0 (by omega) hp (by omega) T Z T2 _ _ _ l2 l3 kr kd kn g1 gT g2 g3 gZ g4 g5
def zdJ (w : World) (q : Bool × List Int × List Int × Int) (e : Ending) (w' : World) : Prop :=
 ∃ v1 v2 : Value, e = .returned (.tuple #[.agg #[.bool q.1, v1, v2], .int .i64 q.2.2.2]) ∧ Kd.R (Kd.int .u32) 109 w' w.heap.size (fun k_ => some k_ ≠ v2.ownBlock) v1 q.2.1 ∧ Kd.R (Kd.int .u32) 109 w' w.heap.size (fun k_ => some k_ ≠ v1.ownBlock) v2 q.2.2.1 ∧ Below w.heap.size w w'
theorem RB.ziW (w : World) : RB w (w.alloc (.cells #[.bool false, .slice none 0 0, .slice none 0 0] 41)) := zcv w _
theorem RB.zoB {w W : World} (h : RB w W) {g : Nat} (hg : w.heap.size ≠ g) (u0 u1 u2 : Value) : RB w (((W.setCell ⟨g, 0, none⟩ u0).setCell ⟨g, 1, none⟩ u1).setCell ⟨g, 2, none⟩ u2) :=
 zdT (p := ⟨g, 2, none⟩) (zdT (p := ⟨g, 1, none⟩) (zdT (p := ⟨g, 0, none⟩) h hg u0) hg u1) hg u2
theorem zcF {w W : World} (h : Below w.heap.size w W) {g : Nat} (hg : w.heap.size ≤ g) (u0 u1 u2 : Value) : Below w.heap.size w (((W.setCell ⟨g, 0, none⟩ u0).setCell ⟨g, 1, none⟩ u1).setCell ⟨g, 2, none⟩ u2) :=
 zbo (zbo (zbo h hg) hg) hg
theorem zdN {e base g0 g1 : Nat} {W : World} {ok : Nat → Prop} {v : Value} {xs : List Int} (h : Kd.R (Kd.int .u32) e W base ok v xs) (h0 : g0 < base) (h1 : W.heap.size ≤ g1) : Kd.R (Kd.int .u32) e W base (fun k => ok k ∧ k ≠ g0 ∧ k ≠ g1) v xs :=
 Kd.za7 (Kd.zdp h) (fun k hk => ⟨hk.1, by have := hk.2.1; omega, by have := hk.2.2.1; omega⟩)
theorem zhH {e base g0 g1 : Nat} {W : World} {ok : Nat → Prop} {v : Value} {xs : List Int} (h : Kd.R (Kd.int .u32) e W base (fun k => ok k ∧ k ≠ g0 ∧ k ≠ g1) v xs) (u0 u1 u2 x0 x1 x2 : Value) :
  Kd.R (Kd.int .u32) e ((((((W.setCell ⟨g1, 0, none⟩ u0).setCell ⟨g1, 1, none⟩ u1).setCell ⟨g1, 2, none⟩ u2).setCell ⟨g0, 0, none⟩ x0).setCell ⟨g0, 1, none⟩ x1).setCell ⟨g0, 2, none⟩ x2) base ok v xs :=
 Kd.za7 (Kd.zck (p := ⟨g0, 2, none⟩) (Kd.zck (p := ⟨g0, 1, none⟩) (Kd.zck (p := ⟨g0, 0, none⟩) (Kd.zck (p := ⟨g1, 2, none⟩) (Kd.zck (p := ⟨g1, 1, none⟩) (Kd.zck (p := ⟨g1, 0, none⟩) h (fun _ hk => hk.2.2) u0) (fun _ hk => hk.2.2) u1) (fun _ hk => hk.2.2) u2) (fun _ hk => hk.2.1) x0) (fun _ hk => hk.2.1) x1) (fun _ hk => hk.2.1) x2) (fun _ hk => hk.1)
theorem zkC {w w' : World} (c : Int) (hb : Below w.heap.size w w') : zdJ w (false, [], [], c) (.returned (.tuple #[.agg #[.bool false, .slice none 0 0, .slice none 0 0], .int .i64 c])) w' :=
 ⟨_, _, rfl, Kd.zcl _ _ _ _ _, Kd.zcl _ _ _ _ _, hb⟩
theorem zjY (s : ByteArray) (w : World) (T : ∀ W, Calls Tryz.prog 67 #[.string s] W (zed W)) : Calls Tryz.prog 35 #[.string s] w (zdJ w (false, [], [], 4)) := by
 have HT := zaa.mk T
 clear T
 go_enter Tryz.func35, Tryz.ntmps35
 go_wp2_with (first
  |(go_at_call 67; (with_reducible refine (HT.out _).mono ?_); rintro e w1 ⟨rfl, hb⟩; have RB1 := zaa.mk (RB.below (RB.ziW w) hb); have HB := zaa.mk (zab (zam (Below.refl w.heap.size w) _) hb); clear hb)
  | ((with_reducible refine zaA (N := 4) rfl ?_); refine zaN ?hg (N := 4) ?hd (cs := #[.bool false, .slice none 0 0, .slice none 0 0]) (t := 41) ?hr ?_; (case hd => rfl); (case hg => rfl); (case hr => first | (go_simp; done) | (go_simp; rfl)); intro gb hgb w2 hbox hb; have RB2 := zaa.mk (RB1.out.below hb); have HB2 := zaa.mk (zab HB.out hb); have BX := zaa.mk hbox; have hne : gb ≠ w.heap.size := (by have := zbg RB1.out; omega); have hne2 : w.heap.size ≠ gb := Ne.symm hne; have GE := zaa.mk (show w.heap.size ≤ gb by have := zbg RB1.out; omega); clear hb hgb hbox RB1 HB; obtain ⟨hc0, hc1, hc2, hf0, hf1, hf2⟩ := RB2.out.cells; have hb0 := (zah BX.out 0); have hb1 := (zah BX.out 1); have hb2 := (zah BX.out 2); have hbf0 := zae BX.out 0; have hbf1 := zae BX.out 1; have hbf2 := zae BX.out 2; simp only [List.getElem?_toArray, List.getElem?_cons_zero, List.getElem?_cons_succ] at hb0 hb1 hb2))
 refine bodyPost_ret (zba rfl _ _ w.heap.size 41 #[.bool false, .slice none 0 0, .slice none 0 0] (0, 0) _ rfl (RB.put (RB.zoB RB2.out hne2 _ _ _) false _ _) Tryz.underlying41 rfl (by kernel_rfl)) rfl ?_
 exact zkC _ (za2 (zcF HB2.out GE.out _ _ _) _ _ _)
theorem zjZ (s rest : ByteArray) (q1 : Bool) (q2 q3 : List Int) (w : World) (hr : rest.toList ≠ []) (T : ∀ W, Calls Tryz.prog 67 #[.string s] W (zeT W rest q1 q2 q3)) : Calls Tryz.prog 35 #[.string s] w (zdJ w (false, [], [], 4)) := by
 have hrb : rest.toList.isEmpty = false := by cases h : rest.toList with | nil => exact absurd h hr | cons a l => rfl
 have HT := zaa.mk T
 clear T
 go_enter Tryz.func35, Tryz.ntmps35
 go_wp2_with (first
  |(go_at_call 67; (with_reducible refine (HT.out _).mono ?_); rintro e w1 ⟨v1, v2, rfl, h1, h2, hb⟩; have RB1 := zaa.mk (RB.below (RB.ziW w) hb); have HB := zaa.mk (zab (zam (Below.refl w.heap.size w) _) hb); obtain ⟨B1, d1, f1⟩ := Kd.zaC h1; subst f1; obtain ⟨B2, d2, f2⟩ := Kd.zaC h2; subst f2; clear h1 h2; clear hb)
  | ((with_reducible refine zaA (N := 4) rfl ?_); refine zaN ?hg (N := 4) ?hd (cs := #[.bool false, .slice none 0 0, .slice none 0 0]) (t := 41) ?hr ?_; (case hd => rfl); (case hg => rfl); (case hr => first | (go_simp; done) | (go_simp; rfl)); intro gb hgb w2 hbox hb; have RB2 := zaa.mk (RB1.out.below hb); have HB2 := zaa.mk (zab HB.out hb); have BX := zaa.mk hbox; have hne : gb ≠ w.heap.size := (by have := zbg RB1.out; omega); have hne2 : w.heap.size ≠ gb := Ne.symm hne; have GE := zaa.mk (show w.heap.size ≤ gb by have := zbg RB1.out; omega); clear hb hgb hbox RB1 HB; obtain ⟨hc0, hc1, hc2, hf0, hf1, hf2⟩ := RB2.out.cells; have hb0 := (zah BX.out 0); have hb1 := (zah BX.out 1); have hb2 := (zah BX.out 2); have hbf0 := zae BX.out 0; have hbf1 := zae BX.out 1; have hbf2 := zae BX.out 2; simp only [List.getElem?_toArray, List.getElem?_cons_zero, List.getElem?_cons_succ] at hb0 hb1 hb2))
 refine bodyPost_ret (zba rfl _ _ w.heap.size 41 #[.bool false, .slice none 0 0, .slice none 0 0] (0, 0) _ rfl (RB.put (RB.zoB RB2.out hne2 _ _ _) false _ _) Tryz.underlying41 rfl (by kernel_rfl)) rfl ?_
 exact zkC _ (za2 (zcF HB2.out GE.out _ _ _) _ _ _)
theorem zlk (s rest : ByteArray) (q1 : Bool) (q2 q3 : List Int) (w : World) (hr : rest.toList = []) (T : ∀ W, Calls Tryz.prog 67 #[.string s] W (zeT W rest q1 q2 q3)) : Calls Tryz.prog 35 #[.string s] w (zdJ w (q1, q2, q3, 0)) := by
 have hrb : rest.toList.isEmpty = true := by rw [hr]; rfl
 have HT := zaa.mk T
 clear T
 go_enter Tryz.func35, Tryz.ntmps35
 go_wp2_with (first
  |(go_at_call 67; (with_reducible refine (HT.out _).mono ?_); rintro e w1 ⟨v1, v2, rfl, h1, h2, hb⟩; have RB1 := zaa.mk (RB.below (RB.ziW w) hb); have HB := zaa.mk (zab (zam (Below.refl w.heap.size w) _) hb); have LO := zaa.mk (show w.heap.size < (w.alloc (.cells #[.bool false, .slice none 0 0, .slice none 0 0] 41)).heap.size by simp); have LE := zaa.mk (Nat.le_of_lt LO.out); have P1 := zaa.mk h1; have P2 := zaa.mk h2; obtain ⟨B1, d1, f1⟩ := Kd.zaC P1.out; subst f1; obtain ⟨B2, d2, f2⟩ := Kd.zaC P2.out; subst f2; clear h1 h2; clear hb)
  | ((with_reducible refine zaA (N := 4) rfl ?_); refine zaN ?hg (N := 4) ?hd (cs := #[.bool false, .slice none 0 0, .slice none 0 0]) (t := 41) ?hr ?_; (case hd => rfl); (case hg => rfl); (case hr => first | (go_simp; done) | (go_simp; rfl)); intro gb hgb w2 hbox hb; have RB2 := zaa.mk (RB1.out.below hb); have HB2 := zaa.mk (zab HB.out hb); have BX := zaa.mk hbox; have hne : gb ≠ w.heap.size := (by have := zbg RB1.out; omega); have hne2 : w.heap.size ≠ gb := Ne.symm hne; have GE := zaa.mk (show w.heap.size ≤ gb by have := zbg RB1.out; omega); have Q1 := zaa.mk (Kd.zaS (zdN P1.out LO.out (g1 := gb) (by omega)) hb); have Q2 := zaa.mk (Kd.zaS (zdN P2.out LO.out (g1 := gb) (by omega)) hb); clear P1 P2; clear hb hgb hbox RB1 HB; obtain ⟨hc0, hc1, hc2, hf0, hf1, hf2⟩ := RB2.out.cells; have hb0 := (zah BX.out 0); have hb1 := (zah BX.out 1); have hb2 := (zah BX.out 2); have hbf0 := zae BX.out 0; have hbf1 := zae BX.out 1; have hbf2 := zae BX.out 2; simp only [List.getElem?_toArray, List.getElem?_cons_zero, List.getElem?_cons_succ] at hb0 hb1 hb2))
 refine bodyPost_ret (zba rfl _ _ w.heap.size 41 #[.bool q1, .slice B1 q2.length d1, .slice B2 q3.length d2] (0, 0) _ rfl (RB.put (RB.zoB RB2.out hne2 _ _ _) q1 _ _) Tryz.underlying41 rfl (by kernel_rfl)) rfl ?_
 exact ⟨_, _, rfl, Kd.zaz (zhH Q1.out _ _ _ _ _ _) LE.out, Kd.zaz (zhH Q2.out _ _ _ _ _ _) LE.out, za2 (zcF HB2.out GE.out _ _ _) _ _ _⟩
theorem ziX (g : Nat) (eg : ∀ args w, (callFunc g args).run Tryz.prog w = .ok (.enter g args) w) (s : ByteArray) (q1 : Bool) (q2 q3 : List Int) (q4 : Int) (w : World) (hn : Lib.hasPrefix s.data.toList [45] = false) (hq : 0 ≤ q4) (T : ∀ W, Calls Tryz.prog g #[.string s] W (zdJ W (q1, q2, q3, q4))) : Calls Tryz.prog 34 #[.string s, .func (.func g) #[] #[]] w (zdJ w (q1, q2, q3, q4)) := by
 have hcp : strings_CutPrefix.f s ⟨#[45]⟩ = some (s, false) := by
  unfold strings_CutPrefix.f
  have h : Lib.hasPrefix s.data.toList (⟨#[45]⟩ : ByteArray).data.toList = false := hn
  rw [h]
  congr 2
  exact ziU (by
   have : Lib.trimPrefix s.data.toList (⟨#[45]⟩ : ByteArray).data.toList = s.data.toList := by unfold Lib.trimPrefix; rw [h]; rfl
   simp [this])
 have CP := zaa.mk hcp
 have HT := zaa.mk T
 clear T hn hcp
 by_cases h0 : q4 = 0
 ·have c1 : (q4 == 0) = true := beq_iff_eq.2 h0
  have H0 := zaa.mk h0
  clear h0 hq
  go_enter Tryz.func34, Tryz.ntmps34
  go_wp2_with (first
   |(go_at_call 65; (with_reducible refine (strings_CutPrefix.calls s _ _ _ _ CP.out).mono ?_); rintro e w0 ⟨rfl, hb⟩; have RB0 := zaa.mk (RB.below (RB.ziW w) hb); have HB0 := zaa.mk (zab (zam (Below.refl w.heap.size w) _) hb); clear hb)
   |(go_at_fn g; (with_reducible refine (HT.out _).mono ?_); rintro e w1 ⟨v1, v2, rfl, h1, h2, hb⟩; have RB1 := zaa.mk (RB0.out.below hb); have HB := zaa.mk (zab HB0.out hb); have LO := zaa.mk (zbg RB0.out); have LE := zaa.mk (zad HB0.out); have P1 := zaa.mk h1; have P2 := zaa.mk h2; obtain ⟨B1, d1, f1⟩ := Kd.zaC P1.out; subst f1; obtain ⟨B2, d2, f2⟩ := Kd.zaC P2.out; subst f2; clear h1 h2 hb RB0 HB0)
   | ((with_reducible refine zaA (N := 7) rfl ?_); refine zaN ?hg (N := 7) ?hd (cs := #[.bool false, .slice none 0 0, .slice none 0 0]) (t := 41) ?hr ?_; (case hd => rfl); (case hg => rfl); (case hr => first | (go_simp; done) | (go_simp; rfl)); intro gb hgb w2 hbox hb; have RB2 := zaa.mk (RB1.out.below hb); have HB2 := zaa.mk (zab HB.out hb); have BX := zaa.mk hbox; have hne : gb ≠ w.heap.size := (by have := zbg RB1.out; omega); have hne2 : w.heap.size ≠ gb := Ne.symm hne; have GE := zaa.mk (show w.heap.size ≤ gb by have := zbg RB1.out; omega); have Q1 := zaa.mk (Kd.zaS (zdN P1.out LO.out (g1 := gb) (by omega)) hb); have Q2 := zaa.mk (Kd.zaS (zdN P2.out LO.out (g1 := gb) (by omega)) hb); clear P1 P2; clear hb hgb hbox RB1 HB; obtain ⟨hc0, hc1, hc2, hf0, hf1, hf2⟩ := RB2.out.cells; have hb0 := (zah BX.out 0); have hb1 := (zah BX.out 1); have hb2 := (zah BX.out 2); have hbf0 := zae BX.out 0; have hbf1 := zae BX.out 1; have hbf2 := zae BX.out 2; simp only [List.getElem?_toArray, List.getElem?_cons_zero, List.getElem?_cons_succ] at hb0 hb1 hb2))
  refine bodyPost_ret (zba rfl _ _ w.heap.size 41 #[.bool q1, .slice B1 q2.length d1, .slice B2 q3.length d2] (0, 0) _ rfl (RB.put (RB.zoB RB2.out hne2 _ _ _) q1 _ _) Tryz.underlying41 rfl (by kernel_rfl)) rfl ?_
  exact ⟨_, _, rfl, Kd.zaz (zhH Q1.out _ _ _ _ _ _) LE.out, Kd.zaz (zhH Q2.out _ _ _ _ _ _) LE.out, za2 (zcF HB2.out GE.out _ _ _) _ _ _⟩
 ·have c1 : (q4 == 0) = false := beq_eq_false_iff_ne.2 h0
  clear hq
  go_enter Tryz.func34, Tryz.ntmps34
  go_wp2_with (first
   |(go_at_call 65; (with_reducible refine (strings_CutPrefix.calls s _ _ _ _ CP.out).mono ?_); rintro e w0 ⟨rfl, hb⟩; have RB0 := zaa.mk (RB.below (RB.ziW w) hb); have HB0 := zaa.mk (zab (zam (Below.refl w.heap.size w) _) hb); clear hb)
   |(go_at_fn g; (with_reducible refine (HT.out _).mono ?_); rintro e w1 ⟨v1, v2, rfl, h1, h2, hb⟩; have RB1 := zaa.mk (RB0.out.below hb); have HB := zaa.mk (zab HB0.out hb); have LO := zaa.mk (zbg RB0.out); have LE := zaa.mk (zad HB0.out); have P1 := zaa.mk h1; have P2 := zaa.mk h2; obtain ⟨B1, d1, f1⟩ := Kd.zaC P1.out; subst f1; obtain ⟨B2, d2, f2⟩ := Kd.zaC P2.out; subst f2; clear h1 h2 hb RB0 HB0)
   | ((with_reducible refine zaA (N := 7) rfl ?_); refine zaN ?hg (N := 7) ?hd (cs := #[.bool false, .slice none 0 0, .slice none 0 0]) (t := 41) ?hr ?_; (case hd => rfl); (case hg => rfl); (case hr => first | (go_simp; done) | (go_simp; rfl)); intro gb hgb w2 hbox hb; have RB2 := zaa.mk (RB1.out.below hb); have HB2 := zaa.mk (zab HB.out hb); have BX := zaa.mk hbox; have hne : gb ≠ w.heap.size := (by have := zbg RB1.out; omega); have hne2 : w.heap.size ≠ gb := Ne.symm hne; have GE := zaa.mk (show w.heap.size ≤ gb by have := zbg RB1.out; omega); have Q1 := zaa.mk (Kd.zaS (zdN P1.out LO.out (g1 := gb) (by omega)) hb); have Q2 := zaa.mk (Kd.zaS (zdN P2.out LO.out (g1 := gb) (by omega)) hb); clear P1 P2; clear hb hgb hbox RB1 HB; obtain ⟨hc0, hc1, hc2, hf0, hf1, hf2⟩ := RB2.out.cells; have hb0 := (zah BX.out 0); have hb1 := (zah BX.out 1); have hb2 := (zah BX.out 2); have hbf0 := zae BX.out 0; have hbf1 := zae BX.out 1; have hbf2 := zae BX.out 2; simp only [List.getElem?_toArray, List.getElem?_cons_zero, List.getElem?_cons_succ] at hb0 hb1 hb2))
  refine bodyPost_ret (zba rfl _ _ w.heap.size 41 #[.bool q1, .slice B1 q2.length d1, .slice B2 q3.length d2] (0, 0) _ rfl (RB.put (RB.zoB RB2.out hne2 _ _ _) q1 _ _) Tryz.underlying41 rfl (by kernel_rfl)) rfl ?_
  exact ⟨_, _, rfl, Kd.zaz (zhH Q1.out _ _ _ _ _ _) LE.out, Kd.zaz (zhH Q2.out _ _ _ _ _ _) LE.out, za2 (zcF HB2.out GE.out _ _ _) _ _ _⟩
def zhg (s : ByteArray) : Bool × List Int × List Int × Int := match zdv s with
 | some (rest, v, d) => if rest.toList = [] then ((zf4 false v d).1, (zf4 false v d).2.1, (zf4 false v d).2.2.1, 0) else (false, [], [], 4)
 | none => (false, [], [], 4)
theorem ziY (s : ByteArray) (hs : s.size ≤ 1099511627776) (ha : zcJ s.data.toList = true) (w : World) : Calls Tryz.prog 35 #[.string s] w (zdJ w (zhg s)) := by
 unfold zhg
 cases h : zdv s with
 | none => exact zjY s w (fun W => ziV s hs ha W h)
 | some x =>
  obtain ⟨rest, v, d⟩ := x
  simp only
  by_cases hr : rest.toList = []
  ·rw [if_pos hr]
   exact zlk s rest _ _ _ w hr (fun W => zgN s hs ha W rest v d h)
  ·rw [if_neg hr]
   exact zjZ s rest _ _ _ w hr (fun W => zgN s hs ha W rest v d h)
theorem znY (s : ByteArray) : (zhg s).2.2.2 = 0 ∨ (zhg s).2.2.2 = 4 := by
 unfold zhg
 cases zdv s with
 | none => exact .inr rfl
 | some x =>
  simp only
  split
  ·exact .inl rfl
  ·exact .inr rfl
theorem zj0 (s : ByteArray) (q1 : Bool) (q2 q3 : List Int) (q4 : Int) (w : World) (T : ∀ W, Calls Tryz.prog 34 #[.string s, .func (.func 35) #[] #[]] W (zdJ W (q1, q2, q3, q4))) : Calls Tryz.prog 15 #[.string s] w (zdJ w (q1, q2, q3, q4)) := by
 have HT := zaa.mk T
 clear T
 go_enter Tryz.func15, Tryz.ntmps15
 go_wp2_with (first
  |(go_at_call 34; (with_reducible refine (HT.out _).mono ?_); rintro e w1 ⟨v1, v2, rfl, h1, h2, hb⟩; have RB1 := zaa.mk (RB.below (RB.ziW w) hb); have HB := zaa.mk (zab (zam (Below.refl w.heap.size w) _) hb); have LO := zaa.mk (show w.heap.size < (w.alloc (.cells #[.bool false, .slice none 0 0, .slice none 0 0] 41)).heap.size by simp); have LE := zaa.mk (Nat.le_of_lt LO.out); have P1 := zaa.mk h1; have P2 := zaa.mk h2; obtain ⟨B1, d1, f1⟩ := Kd.zaC P1.out; subst f1; obtain ⟨B2, d2, f2⟩ := Kd.zaC P2.out; subst f2; clear h1 h2 hb; obtain ⟨hc0, hc1, hc2, hf0, hf1, hf2⟩ := RB1.out.cells))
 refine bodyPost_ret (zba rfl _ _ w.heap.size 41 #[.bool q1, .slice B1 q2.length d1, .slice B2 q3.length d2] (0, 0) _ rfl (RB.put RB1.out q1 _ _) Tryz.underlying41 rfl (by kernel_rfl)) rfl ?_
 exact ⟨_, _, rfl, Kd.zaz (zbZ P1.out LO.out _ _ _) LE.out, Kd.zaz (zbZ P2.out LO.out _ _ _) LE.out, za2 HB.out _ _ _⟩
theorem ziZ (s : ByteArray) (hs : s.size ≤ 1099511627776) (ha : zcJ s.data.toList = true) (hn : Lib.hasPrefix s.data.toList [45] = false) (w : World) : Calls Tryz.prog 15 #[.string s] w (zdJ w (zhg s)) :=
 zj0 s (zhg s).1 (zhg s).2.1 (zhg s).2.2.1 (zhg s).2.2.2 w (fun W => ziX 35 (enters_of Tryz.func35 (by kernel_rfl) rfl) s (zhg s).1 (zhg s).2.1 (zhg s).2.2.1 (zhg s).2.2.2 W hn (show 0 ≤ (zhg s).2.2.2 from (znY s).elim (fun h => by rw [h]; decide) (fun h => by rw [h]; decide)) (fun W' => ziY s hs ha W'))
def zgO (w : World) (rest : ByteArray) (q1 : Bool) (q2 q3 : List Int) (is : Bool) (e : Ending) (w' : World) : Prop :=
 ∃ v1 v2 : Value, e = .returned (.tuple #[.agg #[.bool q1, v1, v2], .string rest, .bool is]) ∧ Kd.R (Kd.int .u32) 109 w' w.heap.size (fun k_ => some k_ ≠ v2.ownBlock) v1 q2 ∧ Kd.R (Kd.int .u32) 109 w' w.heap.size (fun k_ => some k_ ≠ v1.ownBlock) v2 q3 ∧ Below w.heap.size w w'
theorem zgO.no {w w' : World} {e : Ending} (h : zed w e w') : zgO w ⟨#[]⟩ false [] [] false e w' := ⟨_, _, h.1, Kd.zcl _ _ _ _ _, Kd.zcl _ _ _ _ _, h.2⟩
def zc7 (l : List (ByteArray × Int)) : List Value := l.flatMap fun x => [.string x.1, .int .i64 x.2]
theorem zhI : ∀ (l : List (ByteArray × Int)) (g o : Nat) (w : World), (∀ i x, l[i]? = some x → w.cell? ⟨g, o + i * 2, none⟩ = some (.string x.1) ∧ w.cell? ⟨g, o + i * 2 + 1, none⟩ = some (.int .i64 x.2)) → ∀ j v, (zc7 l)[j]? = some v → w.cell? ⟨g, o + j, none⟩ = some v
 | [], _, _, _, _, j, v, h => by simp [zc7] at h
 | x :: l, g, o, w, H, 0, v, h => by
  have := (H 0 x rfl).1
  simp [zc7] at h
  subst h
  simpa using this
 | x :: l, g, o, w, H, 1, v, h => by
  have := (H 0 x rfl).2
  simp [zc7] at h
  subst h
  simpa using this
 | x :: l, g, o, w, H, j + 2, v, h => by
  have := zhI l g (o + 2) w (fun i y hy => by
   have := H (i + 1) y (by simpa using hy)
   rw [show o + (i + 1) * 2 = o + 2 + i * 2 by omega] at this
   exact this) j v (by simpa [zc7] using h)
  rw [show o + (j + 2) = o + 2 + j by omega]
  exact this
theorem zhJ {g : Nat} {l : List (ByteArray × Int)} {w : World} (h : zez g l w) (t : TypeId) (n : Nat) (hn : (zc7 l).length = n) (ha : ∀ w, (isAgg t).run Tryz.prog w = .ok true w) (hs : ∀ w, (sizeOf t).run Tryz.prog w = .ok n w) : (loadVar t ⟨g, 0, none⟩).run Tryz.prog w = .ok (.agg (zc7 l).toArray) w := by
 subst hn
 have := run_loadCells_list (P := Tryz.prog) w ⟨g, 0, none⟩ (zc7 l) (fun j v hj => by
  have := zhI l g 0 w (fun i x hx => by have := h i x hx; simpa using this) j v hj
  have ea : (⟨g, 0, none⟩ : Addr).add j = ⟨g, j, none⟩ := by unfold Addr.add; split <;> simp_all
  rw [ea]; simpa using this)
 simp only [loadVar, Sem.run_bind, ha, hs, this, Result.andThen_ok, if_true, Sem.run_pure]
theorem zer (P : Program) (t e : TypeId) (n m : Nat) (cs : Array Value) (i : Nat) (w : World) (h : P.underlying t = some (.array n e)) (hi : i < n) (ha : ∀ w, (isAgg e).run P w = .ok true w) (hs : ∀ w, (sizeOf e).run P w = .ok m w) : (Instr.index t (.agg cs) (.int .i64 (i : Int))).run P w = .ok (.agg (cs.extract (i * m) (i * m + m))) w := by
 have h1 : 0 ≤ (i : Int) ∧ (i : Int) < (n : Int) := by omega
 simp only [Instr.index, asIntOf, Sem.run_bind, Sem.run_pure, run_underlying h, Result.andThen_ok, h1, and_self, if_true, hs, part, ha, Int.toNat_natCast]
theorem zfF : ∀ (l : List (ByteArray × Int)) (j : Nat) (x : ByteArray × Int), l[j]? = some x → (zc7 l).toArray.extract (j * 2) (j * 2 + 2) = #[.string x.1, .int .i64 x.2]
 | [], j, x, h => by simp at h
 | y :: l, 0, x, h => by
  simp at h
  subst h
  simp [zc7, List.extract]
 | y :: l, j + 1, x, h => by
  have := zfF l j x (by simpa using h)
  simp only [zc7, List.flatMap_cons, List.extract_toArray, List.extract_eq_take_drop] at this ⊢
  rw [← this]
  congr 1
  have e1 : (j + 1) * 2 + 2 - (j + 1) * 2 = j * 2 + 2 - j * 2 := by omega
  have e2 : (j + 1) * 2 = j * 2 + 2 := by omega
  rw [e1, e2]
  simp
theorem zj1 (w : World) (j : Nat) (x : ByteArray × Int) (h : zcV[j]? = some x) : (Instr.index 137 (.agg (zc7 zcV).toArray) (.int .i64 (j : Int))).run Tryz.prog w = .ok (.agg #[.string x.1, .int .i64 x.2]) w := by
 have hj : j < 9 := by have := (List.getElem?_eq_some_iff.1 h).1; simpa [zcV] using this
 rw [zer Tryz.prog 137 136 9 2 (zc7 zcV).toArray j w (by kernel_rfl) hj (fun _ => rfl) (fun _ => rfl), zfF zcV j x h]
theorem zeN {P : Program} {ops : Array Oper} {rest : List Oper} {o : Oper} {a : Act} {w : World} {Q : Exit → Act → World → Prop} (hgd : o.guard = none) (ty : TypeId) (x : Operand) (ho : o.op = .load ty x) (g : Nat) (hx : a.eval x = .pointer (some ⟨g, 0, none⟩)) (v : Value) (hl : (loadVar ty ⟨g, 0, none⟩).run P w = .ok v w) (h : wpList P ops Q rest (a.put o.dst v) w) : wpList P ops Q (o :: rest) a w :=
 Kd.ze0 hgd (by unfold execOp; simp only [ho, hx, Instr.loadAt, Instr.sureAddr, Sem.run_bind, Sem.run_pure, Result.andThen_ok, hl]) h
theorem zcn {P : Program} {ops : Array Oper} {rest : List Oper} {o : Oper} {a : Act} {w : World} {Q : Exit → Act → World → Prop} (hgd : o.guard = none) (ty : TypeId) (x y : Operand) (ho : o.op = .index ty x y) (u iv v : Value) (hx : a.eval x = u) (hy : a.eval y = iv) (hl : (Instr.index ty u iv).run P w = .ok v w) (h : wpList P ops Q rest (a.put o.dst v) w) : wpList P ops Q (o :: rest) a w :=
 Kd.ze0 hgd (by unfold execOp; simp only [ho, hx, hy, Sem.run_bind, Sem.run_pure, Result.andThen_ok, hl]) h
theorem zoC {e base g0 g1 : Nat} {W : World} {ok : Nat → Prop} {v : Value} {xs : List Int} {b' : Nat} (h : Kd.R (Kd.int .u32) e W base (fun k => ok k ∧ k ≠ g0 ∧ k ≠ g1) v xs) (u0 u1 u2 : Value) : Kd.V (Kd.int .u32) e (((W.setCell ⟨g1, 0, none⟩ u0).setCell ⟨g1, 1, none⟩ u1).setCell ⟨g1, 2, none⟩ u2) b' (fun _ => True) v xs :=
 Kd.zbH (Kd.zef (p := ⟨g1, 2, none⟩) (Kd.zef (p := ⟨g1, 1, none⟩) (Kd.zef (p := ⟨g1, 0, none⟩) (Kd.R_V (base' := b') h) (fun _ hk => hk.2.2) u0) (fun _ hk => hk.2.2) u1) (fun _ hk => hk.2.2) u2) (fun _ _ => trivial)
theorem zmF {i : Nat} {x1 : ByteArray} {x2 : Int} (h : zcV[i]? = some (x1, x2)) : ∃ n2 : Nat, x2 = (n2 : Int) ∧ n2 < 9223372036854775808 := by
 have hm : (x1, x2) ∈ zcV := List.mem_of_getElem? h
 have hall : ∀ y ∈ zcV, 0 ≤ y.2 ∧ y.2 < 9223372036854775808 := by decide
 have := hall _ hm
 exact ⟨x2.toNat, by have := this.1; simp at this; omega, by have := this.2; simp at this; omega⟩
def zeU (w : World) (p : Prop) (e : Ending) (w' : World) : Prop := ∃ (x : Bool) (A1 : Option Addr) (n1 c1 : Nat) (A2 : Option Addr) (n2 c2 : Nat) (c : Int), e = .returned (.tuple #[.agg #[.bool x, .slice A1 n1 c1, .slice A2 n2 c2], .int .i64 c]) ∧ (c = 4 ↔ ¬ p) ∧ Below w.heap.size w w'
def zmG (is : Bool) (rest : ByteArray) : Prop := is = true ∧ ∃ x ∈ zcV, x.1 = rest
theorem zll {is : Bool} {rest : ByteArray} (h : ∀ k x, k < 9 → zcV[k]? = some x → ¬ (is = true ∧ x.1 = rest)) : ¬ zmG is rest := fun hc => by
 obtain ⟨h1, x, hx, h2⟩ := hc
 obtain ⟨k, hk, hk2⟩ := List.mem_iff_getElem.1 hx
 exact h k x hk (by rw [List.getElem?_eq_getElem hk, hk2]) ⟨h1, h2⟩
theorem zlm {i : Nat} {x1 rest : ByteArray} {x2 : Int} (h : zcV[i]? = some (x1, x2)) (h2 : x1.toList = rest.toList) : zmG true rest :=
 ⟨rfl, (x1, x2), List.mem_of_getElem? h, ByteArray.ext (Array.toList_inj.1 (by rw [← Lib.toList_data, ← Lib.toList_data]; exact h2))⟩
theorem zmH (s rest : ByteArray) (q1 : Bool) (q2 q3 : List Int) (is : Bool) (w : World) (hG : zaa (G w)) (hst : zaa (zd4 q1 q2 q3)) (T : ∀ W, Calls Tryz.prog 67 #[.string s] W (zgO W rest q1 q2 q3 is)) :
  Calls Tryz.prog 75 #[.string s] w (zeU w (zmG is rest)) := by
 have HT := zaa.mk T
 clear T
 go_enter Tryz.func75, Tryz.ntmps75
 go_wp2_with (first
  |(go_at_call 67; (with_reducible refine (HT.out _).mono ?_); rintro e w1 ⟨v1, v2, rfl, h1, h2, hb⟩; have RB1 := zaa.mk (RB.below (RB.ziW w) hb); have HB := zaa.mk (zab (zam (Below.refl w.heap.size w) _) hb); have LO := zaa.mk (show w.heap.size < (w.alloc (.cells #[.bool false, .slice none 0 0, .slice none 0 0] 41)).heap.size by simp); have LE := zaa.mk (Nat.le_of_lt LO.out); have P1 := zaa.mk h1; have P2 := zaa.mk h2; obtain ⟨B1, d1, f1⟩ := Kd.zaC P1.out; subst f1; obtain ⟨B2, d2, f2⟩ := Kd.zaC P2.out; subst f2; clear h1 h2; clear hb)
  | ((with_reducible refine zaA (N := 4) rfl ?_); refine zaN ?hg (N := 4) ?hd (cs := #[.bool false, .slice none 0 0, .slice none 0 0]) (t := 41) ?hr ?_; (case hd => rfl); (case hg => rfl); (case hr => first | (go_simp; done) | (go_simp; rfl)); intro gb hgb w2 hbox hb; have RB2 := zaa.mk (RB1.out.below hb); have HB2 := zaa.mk (zab HB.out hb); have BX := zaa.mk hbox; have hne : gb ≠ w.heap.size := (by have := zbg RB1.out; omega); have hne2 : w.heap.size ≠ gb := Ne.symm hne; have GE := zaa.mk (show w.heap.size ≤ gb by have := zbg RB1.out; omega); have Q1 := zaa.mk (Kd.zaS (zdN P1.out LO.out (g1 := gb) (by omega)) hb); have Q2 := zaa.mk (Kd.zaS (zdN P2.out LO.out (g1 := gb) (by omega)) hb); clear P1 P2; clear hb hgb hbox RB1 HB; obtain ⟨hc0, hc1, hc2, hf0, hf1, hf2⟩ := RB2.out.cells; have hb0 := (zah BX.out 0); have hb1 := (zah BX.out 1); have hb2 := (zah BX.out 2); have hbf0 := zae BX.out 0; have hbf1 := zae BX.out 1; have hbf2 := zae BX.out 2; simp only [List.getElem?_toArray, List.getElem?_cons_zero, List.getElem?_cons_succ] at hb0 hb1 hb2)
  | ((with_reducible refine zaA (N := 15) rfl ?_); have RB3 := zaa.mk (RB.zoB RB2.out hne2 (.bool q1) (.slice B1 q2.length d1) (.slice B2 q3.length d2)); have HB3 := zaa.mk (zcF HB2.out GE.out (.bool q1) (.slice B1 q2.length d1) (.slice B2 q3.length d2)); have BX3 := zaa.mk (zaB (zaB (zaB BX.out 0 (.bool q1) (cs' := #[.bool q1, .slice none 0 0, .slice none 0 0]) rfl) 1 (.slice B1 q2.length d1) (cs' := #[.bool q1, .slice B1 q2.length d1, .slice none 0 0]) rfl) 2 (.slice B2 q3.length d2) (cs' := #[.bool q1, .slice B1 q2.length d1, .slice B2 q3.length d2]) rfl); have V1 := zaa.mk (zoC (b' := 0) Q1.out (.bool q1) (.slice B1 q2.length d1) (.slice B2 q3.length d2)); have V2 := zaa.mk (zoC (b' := 0) Q2.out (.bool q1) (.slice B1 q2.length d1) (.slice B2 q3.length d2)); clear Q1 Q2 BX RB2 HB2 hc0 hc1 hc2 hf0 hf1 hf2 hb0 hb1 hb2 hbf0 hbf1 hbf2; generalize ((w2.setCell ⟨gb, 0, none⟩ (.bool q1)).setCell ⟨gb, 1, none⟩ (.slice B1 q2.length d1)).setCell ⟨gb, 2, none⟩ (.slice B2 q3.length d2) = w3 at *; refine zeN rfl 137 _ rfl 3 rfl _ (zhJ (hG.out.below HB3.out).sizes 137 18 rfl (fun _ => rfl) (fun _ => rfl)) ?_))
 go_loopg [16] 10 (fun kq v16 wr => ∃ (j : Int), v16 = .int .i64 j ∧ zaa (∃ i : Nat, j = (i : Int) ∧ i ≤ 9 ∧ 9 < kq + i ∧ ∀ k x, k < i → zcV[k]? = some x → ¬ (is = true ∧ x.1 = rest)) ∧ zaa (RB w wr) ∧ zaa (wr.heap[gb]? = some (.cells #[.bool q1, .slice B1 q2.length d1, .slice B2 q3.length d2] 41 (0, 0))) ∧ zaa (Kd.V (Kd.int .u32) 109 wr 0 (fun _ => True) (.slice B1 q2.length d1) q2) ∧ zaa (Kd.V (Kd.int .u32) 109 wr 0 (fun _ => True) (.slice B2 q3.length d2) q3) ∧ zaa (Below w.heap.size w wr))
 case atStart => exact ⟨0, rfl, ⟨0, rfl, Nat.zero_le _, by omega, fun k x hk => absurd hk (Nat.not_lt_zero _)⟩, RB3, BX3, V1, V2, HB3⟩
 case round =>
  obtain ⟨j, rfl, ⟨i, hij, hi, hk, hN⟩, RB4, BX4, V14, V24, HB4⟩ := hrel
  cases gk with
  | zero => exact absurd hk (by omega)
  | succ kq =>
   by_cases hlt : i < 9
   ·obtain ⟨x, hx⟩ : ∃ x, zcV[i]? = some x := ⟨_, List.getElem?_eq_getElem (by simpa [zcV] using hlt)⟩
    have hg : decide (j < 9) = true := decide_eq_true (by omega)
    have HJ : zaa (j = (i : Int) ∧ i < 9 ∧ 9 < kq + 1 + i) := ⟨hij, hlt, hk⟩
    have HX := zaa.mk hx
    have HN := zaa.mk hN
    have hix : ∀ w, (Instr.index 137 (.agg (zc7 zcV).toArray) (.int .i64 j)).run Tryz.prog w = .ok (.agg #[.string x.1, .int .i64 x.2]) w := fun w => by rw [hij]; exact zj1 w i x hx
    have HI := zaa.mk hix
    clear hix hij hlt hk hx hN hi
    obtain ⟨x1, x2⟩ := x
    cases is with
    | false =>
     go_wp2_with ((with_reducible refine zaA (N := 18) rfl ?_); refine zcn rfl _ _ _ rfl _ _ _ rfl rfl (HI.out _) ?_)
     go_roundg kq
     case measure => have := HJ.out; omega
     case rel =>
      exact ⟨wrap64 (j + 1), rfl, ⟨i + 1, by have := HJ.out; unfold wrap64; omega, by have := HJ.out; omega, by have := HJ.out; omega, fun k x hk hx => (Nat.lt_succ_iff_lt_or_eq.1 hk).elim (fun h => HN.out k x h hx) (fun h => by rw [h, HX.out] at hx; cases hx; exact fun h => Bool.noConfusion h.1)⟩, ⟨zai RB4.out _⟩, ⟨zai BX4.out _⟩, ⟨Kd.zaZ V14.out _⟩, ⟨Kd.zaZ V24.out _⟩, ⟨zam HB4.out _⟩⟩
    | true =>
     by_cases hx : x1.toList = rest.toList
     ·have hxb : (x1.toList == rest.toList) = true := beq_iff_eq.2 hx
      have HX2 := zaa.mk hx
      clear hx
      obtain ⟨n2, hn2, hn3⟩ : ∃ n2 : Nat, x2 = (n2 : Int) ∧ n2 < 9223372036854775808 := zmF HX.out
      subst hn2
      obtain ⟨⟨ko, hko⟩, oko⟩ := zky n2 hn3
      have EO := zaa.mk (hko ko (Nat.le_refl _))
      obtain ⟨⟨m1, m2, m3, m4⟩, ⟨km, hkm⟩, hres⟩ := zmx hst.out (show zd4 false (L n2) (L 1) from .inl ⟨n2, 1, rfl, rfl, oko⟩)
      have EM := zaa.mk (hkm km (Nat.le_refl _))
      have ER := zaa.mk hres
      clear hko hkm hres oko hn3
      go_wp2_with ((with_reducible refine zaA (N := 18) rfl ?_); refine zcn rfl _ _ _ rfl _ _ _ rfl rfl (HI.out _) ?_)
      have RB5 := zaa.mk (show RB w (wr.alloc (.cells #[.string x1, .int .i64 (n2 : Int)] 136)) from zai RB4.out _)
      have BX5 := zaa.mk (zai BX4.out (.cells #[.string x1, .int .i64 (n2 : Int)] 136))
      have V15 := zaa.mk (Kd.zaZ V14.out (.cells #[.string x1, .int .i64 (n2 : Int)] 136))
      have V25 := zaa.mk (Kd.zaZ V24.out (.cells #[.string x1, .int .i64 (n2 : Int)] 136))
      have HB5 := zaa.mk (zam HB4.out (.cells #[.string x1, .int .i64 (n2 : Int)] 136))
      have BU := zaa.mk (zcv wr (.cells #[.string x1, .int .i64 (n2 : Int)] 136))
      clear RB4 BX4 V14 V24 HB4
      generalize wr.alloc (.cells #[.string x1, .int .i64 (n2 : Int)] 136) = w5 at *
      generalize wr.heap.size = gu at *
      have hu1 := (zah BU.out 1)
      have hb0 := (zah BX5.out 0)
      have hb1 := (zah BX5.out 1)
      have hb2 := (zah BX5.out 2)
      simp only [List.getElem?_toArray, List.getElem?_cons_zero, List.getElem?_cons_succ] at hu1 hb0 hb1 hb2
      go_region_with (first
       | (go_at_call 103; (with_reducible refine (zeb.calls ko _ _ _ _ _ EO.out).mono ?_); rintro e w6 ⟨v1, v2, rfl, h1, h2, hb⟩; have BX6 := zaa.mk (zak (by (with_reducible repeat (first | refine zap ?_ _ | refine zar ?_ )); exact BX5.out) hb); have RB6 := zaa.mk (show RB w w6 from zak (by (with_reducible repeat (first | refine zap ?_ _ | refine zar ?_ )); exact RB5.out) hb); have V16 : zaa (∀ b, Kd.V (Kd.int .u32) 109 w6 b (fun _ => True) (.slice B1 q2.length d1) q2) := ⟨fun b => Kd.zfA (Kd.zaW (by (with_reducible repeat (first | apply Kd.zbr | apply Kd.zbI)); exact V15.out) hb) (fun _ h => h)⟩; have V26 : zaa (∀ b, Kd.V (Kd.int .u32) 109 w6 b (fun _ => True) (.slice B2 q3.length d2) q3) := ⟨fun b => Kd.zfA (Kd.zaW (by (with_reducible repeat (first | apply Kd.zbr | apply Kd.zbI)); exact V25.out) hb) (fun _ h => h)⟩; have U16 : zaa (∀ b, Kd.V (Kd.int .u32) 109 w6 b (fun _ => True) v1 (L n2)) := ⟨fun b => Kd.zfA (Kd.zbH h1 (fun _ _ => trivial)) (fun _ h => h)⟩; have U26 : zaa (∀ b, Kd.V (Kd.int .u32) 109 w6 b (fun _ => True) v2 (L 1)) := ⟨fun b => Kd.zfA (Kd.zbH h2 (fun _ _ => trivial)) (fun _ h => h)⟩; have HB6 := zaa.mk (zab (by repeat (first | (with_reducible first | exact HB5.out | apply zao | apply zav) | exact HB5.out)) hb); clear h1 h2 hb; obtain ⟨A1, c1, e1⟩ := Kd.zbe (U16.out 0); subst e1; obtain ⟨A2, c2, e2⟩ := Kd.zbe (U26.out 0); subst e2; have hb0 := (zah BX6.out 0); have hb1 := (zah BX6.out 1); have hb2 := (zah BX6.out 2); simp only [List.getElem?_toArray, List.getElem?_cons_zero, List.getElem?_cons_succ] at hb0 hb1 hb2)
       | (go_at_call 102; (with_reducible refine (zdI.calls km q1 (fun _ => True) B1 d1 q2 (fun _ => True) B2 d2 q3 false (fun _ => True) A1 c1 (L n2) (fun _ => True) A2 c2 (L 1) m1 m2 m3 m4 _ (V16.out _) (V26.out _) (U16.out _) (U26.out _) EM.out).mono ?_); rintro e w7 ⟨v3, v4, rfl, h3, h4, hb⟩; have RB7 := zaa.mk (RB6.out.below hb); have HB7 := zaa.mk (zab HB6.out hb); obtain ⟨A3, c3, e3⟩ := Kd.zaC h3; subst e3; obtain ⟨A4, c4, e4⟩ := Kd.zaC h4; subst e4; clear h3 h4 hb; obtain ⟨hc0, hc1, hc2, hf0, hf1, hf2⟩ := RB7.out.cells))
      all_goals go_wp2
      all_goals refine bodyPost_ret (zba rfl _ _ w.heap.size 41 #[.bool m1, .slice A3 m2.length c3, .slice A4 m3.length c4] (0, 0) _ rfl (RB.put RB7.out m1 _ _) Tryz.underlying41 rfl (by kernel_rfl)) rfl ?_
      all_goals exact ⟨_, _, _, _, _, _, _, m4, rfl, ⟨fun h => absurd h ER.out.ne4, fun h => absurd (zlm HX.out HX2.out) h⟩, za2 HB7.out _ _ _⟩
     ·have hxb : (x1.toList == rest.toList) = false := beq_eq_false_iff_ne.2 hx
      have HX2 := zaa.mk hx
      clear hx
      go_wp2_with ((with_reducible refine zaA (N := 18) rfl ?_); refine zcn rfl _ _ _ rfl _ _ _ rfl rfl (HI.out _) ?_)
      go_roundg kq
      case measure => have := HJ.out; omega
      case rel =>
       exact ⟨wrap64 (j + 1), rfl, ⟨i + 1, by have := HJ.out; unfold wrap64; omega, by have := HJ.out; omega, by have := HJ.out; omega, fun k x hk hx => (Nat.lt_succ_iff_lt_or_eq.1 hk).elim (fun h => HN.out k x h hx) (fun h => by rw [h, HX.out] at hx; cases hx; exact fun h => HX2.out (congrArg ByteArray.toList h.2))⟩, ⟨zai RB4.out _⟩, ⟨zai BX4.out _⟩, ⟨Kd.zaZ V14.out _⟩, ⟨Kd.zaZ V24.out _⟩, ⟨zam HB4.out _⟩⟩
   ·have hg : decide (j < 9) = false := decide_eq_false (by omega)
    have hi9 : i = 9 := by omega
    subst hi9
    have HN := zaa.mk hN
    clear hN hij hi hk hlt
    obtain ⟨hc0, hc1, hc2, hf0, hf1, hf2⟩ := RB4.out.cells
    go_wp2
    refine bodyPost_ret (zba rfl _ _ w.heap.size 41 #[.bool false, .slice none 0 0, .slice none 0 0] (0, 0) _ rfl (RB.put RB4.out false _ _) Tryz.underlying41 rfl (by kernel_rfl)) rfl ?_
    exact ⟨_, _, _, _, _, _, _, 4, rfl, ⟨fun _ => zll HN.out, fun _ => rfl⟩, za2 HB4.out _ _ _⟩
theorem znZ {s rest : ByteArray} {v d : Nat} (h : zdv s = some (rest, v, d)) : zd4 (zf4 false v d).1 (zf4 false v d).2.1 (zf4 false v d).2.2.1 := by
 unfold zdv at h
 by_cases hbt : zna (zcX s) (zcN s) (zb3 s) = true
 ·rw [if_pos hbt] at h; cases h
 rw [if_neg hbt] at h
 injection h with h
 injection h with e1 h
 injection h with e2 e3
 have hsz : (zcX s).size + (zb3 s).size ≤ 40 := by
  unfold zna at hbt
  simp only [Bool.or_eq_true, decide_eq_true_eq, not_or] at hbt
  omega
 have hl : ((zcX s).data.toList ++ (zb3 s).data.toList).length ≤ 45 := by rw [List.length_append, ← Lib.size_eq, ← Lib.size_eq]; omega
 have h1 := zff hl (zfh s)
 rw [← e2, ← e3]
 refine (zgc _ _ _ (zbt h1 (by decide)) ?_ (Nat.pow_pos (by decide))).st
 refine zbt (j := 8) ?_ (by decide)
 unfold big
 have h2 : 10 ^ (zb3 s).size ≤ 10 ^ 45 := Nat.pow_le_pow_right (by decide) (by omega)
 have h3 : (10 : Nat) ^ 45 = 1000000000000000000000000000000000000000000000 := by decide
 have h4 : (4294967296 : Int) ^ 8 = 115792089237316195423570985008687907853269984665640564039457584007913129639936 := by decide
 rw [h4]
 omega
theorem zkD (s : ByteArray) (hs : s.size ≤ 1099511627776) (ha : zcJ s.data.toList = true) : ∃ (rest : ByteArray) (q1 : Bool) (q2 q3 : List Int) (is : Bool), (∀ w, Calls Tryz.prog 67 #[.string s] w (zgO w rest q1 q2 q3 is)) ∧ zd4 q1 q2 q3 ∧ is = (zdv s).isSome ∧ (∀ x, zdv s = some x → x.1 = rest) := by
 cases h : zdv s with
 | none => exact ⟨⟨#[]⟩, false, [], [], false, fun w => (ziV s hs ha w h).mono (fun _ _ => zgO.no), .inr ⟨rfl, rfl, rfl⟩, rfl, fun x hx => by cases hx⟩
 | some x =>
  obtain ⟨rest, v, d⟩ := x
  refine ⟨rest, _, _, _, true, fun w => (zgN s hs ha w rest v d h).mono (fun _ _ h => h), ?_, rfl, fun x hx => by cases hx; rfl⟩
  exact znZ h
def zhK (s : ByteArray) : Bool := match zdv s with | some x => zcV.any fun y => decide (y.1 = x.1) | none => false
theorem zln (s : ByteArray) (hs : s.size ≤ 1099511627776) (ha : zcJ s.data.toList = true) (w : World) (hG : zaa (G w)) : Calls Tryz.prog 75 #[.string s] w (zeU w (zhK s = true)) := by
 obtain ⟨rest, q1, q2, q3, is, hT, hst, his, hx⟩ := zkD s hs ha
 have := zmH s rest q1 q2 q3 is w hG ⟨hst⟩ hT
 have he : zmG is rest = (zhK s = true) := by
  unfold zhK zmG
  subst his
  cases h : zdv s with
  | none => simp
  | some x =>
   have := hx x h
   subst this
   simp
 rw [he] at this
 exact this
def znb (c : UInt8) : Bool := decide (97 ≤ c.toNat ∧ c.toNat ≤ 122)
theorem zlo (c : UInt8) (w : World) (hc : c.toNat < 128) : Calls Tryz.prog 140 #[.int .i32 (c.toNat : Int)] w fun e w' => e = .returned (.bool (!znb c)) ∧ Below w.heap.size w w' := by
 unfold znb
 obtain ⟨n, hn⟩ : ∃ n, c.toNat = n := ⟨_, rfl⟩
 rw [hn]
 by_cases h1 : n < 97
 ·have c1 : decide ((n : Int) < 97) = true := decide_eq_true (by omega)
  have HE : zaa ((!decide (97 ≤ n ∧ n ≤ 122)) = true) := ⟨by simp; omega⟩
  clear hc hn h1
  go_enter Tryz.func140, Tryz.ntmps140
  go_wp2
  go_ret
  exact ⟨by rw [HE.out]; rfl, Below.refl _ _⟩
 ·have c1 : decide ((n : Int) < 97) = false := decide_eq_false (by omega)
  by_cases h2 : 122 < n
  ·have c2 : decide ((n : Int) > 122) = true := decide_eq_true (by omega)
   have c3 : decide (122 < (n : Int)) = true := decide_eq_true (by omega)
   have HE : zaa ((!decide (97 ≤ n ∧ n ≤ 122)) = true) := ⟨by simp; omega⟩
   clear hc hn h1 h2
   go_enter Tryz.func140, Tryz.ntmps140
   go_wp2
   go_ret
   exact ⟨by rw [HE.out]; rfl, Below.refl _ _⟩
  ·have c2 : decide ((n : Int) > 122) = false := decide_eq_false (by omega)
   have c3 : decide (122 < (n : Int)) = false := decide_eq_false (by omega)
   have HE : zaa ((!decide (97 ≤ n ∧ n ≤ 122)) = false) := ⟨by simp; omega⟩
   clear hc hn h1 h2
   go_enter Tryz.func140, Tryz.ntmps140
   go_wp2
   go_ret
   exact ⟨by rw [HE.out]; rfl, Below.refl _ _⟩
def zes (lo : Nat) (name : ByteArray) : Option Nat := (List.range 8).find? fun i => decide (lo ≤ i ∧ (zcs[i]?).map (·.1) = some name)
theorem zj2 {lo i : Nat} {name : ByteArray} {x : ByteArray × Int} (hx : zcs[i]? = some x) (hl : lo ≤ i) (he : x.1 = name) (hn : ∀ k y, k < i → zcs[k]? = some y → ¬ (lo ≤ k ∧ y.1 = name)) : zes lo name = some i := by
 have hi : i < 8 := by have := (List.getElem?_eq_some_iff.1 hx).1; simpa [zcs] using this
 unfold zes
 rw [List.find?_range_eq_some]
 refine ⟨by simp [hl, hx, he], by simpa using hi, fun k hk => ?_⟩
 have hk8 : k < zcs.length := by simp only [zcs, List.length_cons, List.length_nil]; omega
 have := hn k _ hk (List.getElem?_eq_getElem hk8)
 rw [List.getElem?_eq_getElem hk8]
 simp only [Option.map_some, Option.some.injEq]
 simp
 rcases Nat.lt_or_ge k lo with h | h
 ·exact .inl h
 ·exact .inr fun e => this ⟨h, e⟩
theorem zj3 {lo : Nat} {name : ByteArray} (hn : ∀ k y, k < 8 → zcs[k]? = some y → ¬ (lo ≤ k ∧ y.1 = name)) : zes lo name = none := by
 unfold zes
 rw [List.find?_eq_none]
 intro k hk
 have hk := List.mem_range.1 hk
 have hk8 : k < zcs.length := by simp only [zcs, List.length_cons, List.length_nil]; omega
 have := hn k _ hk (List.getElem?_eq_getElem hk8)
 rw [List.getElem?_eq_getElem hk8]
 simpa using this
theorem zi0 {lo i : Nat} {name : ByteArray} (h : zes lo name = some i) : lo ≤ i ∧ i < 8 := by
 unfold zes at h
 have h1 := List.find?_some h
 have h2 := List.mem_of_find?_eq_some h
 simp only [decide_eq_true_eq] at h1
 exact ⟨h1.1, List.mem_range.1 h2⟩
def zfG (rest : ByteArray) : ByteArray := rest.extract 0 (runN znb rest.data.toList)
def zfH (rest : ByteArray) : ByteArray := rest.extract (runN znb rest.data.toList) rest.size
def zkE : Nat → Nat → ByteArray → Bool
 | 0, _, _ => false
 | f + 1, lo, s => match zdv s with
  | none => false
  | some x => match zes lo (zfG x.1) with
   | none => false
   | some i => if (zfH x.1).size = 0 then true else zkE f (i + 1) (zfH x.1)
def zmI (s : ByteArray) : Bool := zkE 9 0 s
def zfW (s : ByteArray) : Bool := decide (s.size ≤ 100) && zmI s
theorem zge (f lo : Nat) (s : ByteArray) (h : 8 ≤ lo) : zkE f lo s = false := by
 cases f with
 | zero => rfl
 | succ f =>
  rw [zkE]
  cases zdv s with
  | none => rfl
  | some x =>
   simp only
   cases hx : zes lo (zfG x.1) with
   | none => rfl
   | some i => exact absurd (zi0 hx) (by omega)
theorem zi1 : ∀ (f g lo : Nat) (s : ByteArray), 9 ≤ f + lo → 9 ≤ g + lo → zkE f lo s = zkE g lo s
 | 0, g, lo, s, hf, hg => by rw [zge 0 lo s (by omega), zge g lo s (by omega)]
 | f + 1, 0, lo, s, hf, hg => by rw [zge (f + 1) lo s (by omega), zge 0 lo s (by omega)]
 | f + 1, g + 1, lo, s, hf, hg => by
  rw [zkE, zkE]
  cases zdv s with
  | none => rfl
  | some x =>
   simp only
   cases hx : zes lo (zfG x.1) with
   | none => rfl
   | some i =>
    have := zi0 hx
    simp only
    rw [zi1 f g (i + 1) _ (by omega) (by omega)]
theorem zgP (w : World) (j : Nat) (x : ByteArray × Int) (h : zcs[j]? = some x) : (Instr.index 169 (.agg (zc7 zcs).toArray) (.int .i64 (j : Int))).run Tryz.prog w = .ok (.agg #[.string x.1, .int .i64 x.2]) w := by
 have hj : j < 8 := by have := (List.getElem?_eq_some_iff.1 h).1; simpa [zcs] using this
 rw [zer Tryz.prog 169 136 8 2 (zc7 zcs).toArray j w (by kernel_rfl) hj (fun _ => rfl) (fun _ => rfl), zfF zcs j x h]
theorem zmJ {i : Nat} {x1 : ByteArray} {x2 : Int} (h : zcs[i]? = some (x1, x2)) : ∃ n2 : Nat, x2 = (n2 : Int) ∧ n2 < 9223372036854775808 := by
 have hm : (x1, x2) ∈ zcs := List.mem_of_getElem? h
 have hall : ∀ y ∈ zcs, 0 ≤ y.2 ∧ y.2 < 9223372036854775808 := by decide
 have := hall _ hm
 exact ⟨x2.toNat, by have := this.1; simp at this; omega, by have := this.2; simp at this; omega⟩
end Go.Proofs.YtioofhilohmfbaaGreatDoor
end
