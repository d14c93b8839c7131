import Derived.Test.YtcpknkdnboiecaaDoorF0
import Derived.Test.YtcpknkdnboiecaaDoorContains
import Derived.Test.YtcpknkdnboiecaaDoorFDriftnetlaw04Is
import Derived.Test.YtcpknkdnboiecaaDoorFDriftnetlaw04Works
import Derived.Test.YtcpknkdnboiecaaDoorFQuoteDecode
import Derived.Test.YtcpknkdnboiecaaDoorQuote
namespace Go.Proofs.YtcpknkdnboiecaaDoor.P
open Go.RowKit Go.Proofs.YtcpknkdnboiecaaDoorW.PrintWords Go.Proofs.YtcpknkdnboiecaaDoorW.PrintLast Go.Proofs.YtcpknkdnboiecaaDoorW.PrintMore
attribute [local go_sem] max2_int min2_int max_two min_two max_three min_three max_four min_four
set_option linter.unusedVariables false
set_option linter.unusedSimpArgs false

/-! ### driftnetlaw04_QuoteBack: function 8 -/
mutual
def driftnetlaw04_QuoteBack.j0 : Nat → ByteArray → ByteArray → Bool → Option (Bool)
  | 0, _, _, _ => none
  | k + 1, x0, x3, x36 => if x36 = true then (some false) else (driftnetlaw04_QuoteBack.l0 k x0 x3)
def driftnetlaw04_QuoteBack.l0 : Nat → ByteArray → ByteArray → Option (Bool)
  | 0, _, _ => none
  | k + 1, x0, x4 => if x4.toList = ([] : List UInt8) then ((strings_Contains.f x0 (⟨#[96]⟩ : ByteArray)).bind fun t4 => (if 1 + x0.size ≤ 9223372036854775807 then (if ((⟨#[96]⟩ : ByteArray) ++ x0).size + 1 ≤ 9223372036854775807 then ((driftnetlaw04_is.f (((⟨#[96]⟩ : ByteArray) ++ x0) ++ (⟨#[96]⟩ : ByteArray)) x0).bind fun t5 => (some ((!t4) == t5))) else (none)) else (none))) else ((quote_Decode.f x4).bind fun bt6 => (if bt6.2 < 1 then (some false) else (if bt6.1 < 32 then (some false) else (if bt6.1 = 127 then (some false) else (if bt6.1 = 65533 then (if bt6.2 = 1 then (some false) else (if 0 ≤ bt6.2 then (if bt6.2 ≤ (x4.size : Int) then (driftnetlaw04_QuoteBack.l0 k x0 (x4.extract (bt6.2 : Int).toNat x4.size)) else (none)) else (none))) else (if 0 ≤ bt6.2 then (if bt6.2 ≤ (x4.size : Int) then (driftnetlaw04_QuoteBack.l0 k x0 (x4.extract (bt6.2 : Int).toNat x4.size)) else (none)) else (none)))))))
end
def driftnetlaw04_QuoteBack.f (k : Nat) (a0 : ByteArray) : Option (Bool) := (driftnetlaw04_works.f).bind fun t1 => (if t1 = true then (if 0 ≤ (mn (a0.size : Int) 2000) then (if (mn (a0.size : Int) 2000) ≤ (a0.size : Int) then ((quote_Quote.f (a0.extract 0 ((mn (a0.size : Int) 2000) : Int).toNat)).bind fun t2 => ((driftnetlaw04_is.f t2 (a0.extract 0 ((mn (a0.size : Int) 2000) : Int).toNat)).bind fun t3 => (if t3 = true then (if (t2.size : Int) < (wrap64 (((a0.extract 0 ((mn (a0.size : Int) 2000) : Int).toNat).size : Int) + 2)) then (driftnetlaw04_QuoteBack.j0 k (a0.extract 0 ((mn (a0.size : Int) 2000) : Int).toNat) t2 true) else (driftnetlaw04_QuoteBack.j0 k (a0.extract 0 ((mn (a0.size : Int) 2000) : Int).toNat) t2 (decide ((t2.size : Int) > (wrap64 ((wrap64 (4 * ((a0.extract 0 ((mn (a0.size : Int) 2000) : Int).toNat).size : Int))) + 2)))))) else (driftnetlaw04_QuoteBack.j0 k (a0.extract 0 ((mn (a0.size : Int) 2000) : Int).toNat) t2 true)))) else (none)) else (none)) else (some false))
theorem driftnetlaw04_QuoteBack.mono_l : ∀ k, (∀ y0 y1 y2, LeO (driftnetlaw04_QuoteBack.j0 k y0 y1 y2) (driftnetlaw04_QuoteBack.j0 (k + 1) y0 y1 y2)) ∧ (∀ y0 y1, LeO (driftnetlaw04_QuoteBack.l0 k y0 y1) (driftnetlaw04_QuoteBack.l0 (k + 1) y0 y1))
  | 0 => ⟨fun _ _ _ r h => by simp [driftnetlaw04_QuoteBack.j0] at h, fun _ _ r h => by simp [driftnetlaw04_QuoteBack.l0] at h⟩
  | k + 1 => by
    obtain ⟨ih0, ih1⟩ := driftnetlaw04_QuoteBack.mono_l k
    refine ⟨?_, ?_⟩
    · intro y0 y1 y2
      unfold driftnetlaw04_QuoteBack.j0
      repeat' first
      | (with_reducible exact ih0 _ _ _)
      | (with_reducible exact ih1 _ _)
      | (with_reducible exact LeO.refl _)
      | (with_reducible exact LeO.none _)
      | (with_reducible refine LeO.ite ?_ ?_)
      | (with_reducible refine LeO.bind ?_ (fun _ => ?_))
      | exact ih0 _ _ _
      | exact ih1 _ _
      | exact LeO.none _
      | refine LeO.ite ?_ ?_
      | refine LeO.bind ?_ (fun _ => ?_)
    · intro y0 y1
      unfold driftnetlaw04_QuoteBack.l0
      repeat' first
      | (with_reducible exact ih0 _ _ _)
      | (with_reducible exact ih1 _ _)
      | (with_reducible exact LeO.refl _)
      | (with_reducible exact LeO.none _)
      | (with_reducible refine LeO.ite ?_ ?_)
      | (with_reducible refine LeO.bind ?_ (fun _ => ?_))
      | exact ih0 _ _ _
      | exact ih1 _ _
      | exact LeO.none _
      | refine LeO.ite ?_ ?_
      | refine LeO.bind ?_ (fun _ => ?_)
theorem driftnetlaw04_QuoteBack.mono : ∀ a0 k, LeO (driftnetlaw04_QuoteBack.f k a0) (driftnetlaw04_QuoteBack.f (k + 1) a0) := by
  intro a0 k
  obtain ⟨ih0, ih1⟩ := driftnetlaw04_QuoteBack.mono_l k
  unfold driftnetlaw04_QuoteBack.f
  repeat' first
      | (with_reducible exact ih0 _ _ _)
      | (with_reducible exact ih1 _ _)
      | (with_reducible exact LeO.refl _)
      | (with_reducible exact LeO.none _)
      | (with_reducible refine LeO.ite ?_ ?_)
      | (with_reducible refine LeO.bind ?_ (fun _ => ?_))
      | exact ih0 _ _ _
      | exact ih1 _ _
      | exact LeO.none _
      | refine LeO.ite ?_ ?_
      | refine LeO.bind ?_ (fun _ => ?_)
set_option maxHeartbeats 8000000 in
set_option maxRecDepth 100000 in
theorem driftnetlaw04_QuoteBack.calls (k : Nat) (a0 : ByteArray) (r : Bool) (w : World) (hG : Aside0 (G w)) (h : driftnetlaw04_QuoteBack.f k a0 = some r) :
    Calls Tryd.prog 8 #[.string a0] w fun e w' => e = .returned (.bool r) ∧ Below w.heap.size w w' := by
  have HB := Aside0.mk (Below.refl w.heap.size w)
  have H : ((driftnetlaw04_works.f).bind fun t1 => (if t1 = true then (if 0 ≤ (mn (a0.size : Int) 2000) then (if (mn (a0.size : Int) 2000) ≤ (a0.size : Int) then ((quote_Quote.f (a0.extract 0 ((mn (a0.size : Int) 2000) : Int).toNat)).bind fun t2 => ((driftnetlaw04_is.f t2 (a0.extract 0 ((mn (a0.size : Int) 2000) : Int).toNat)).bind fun t3 => (if t3 = true then (if (t2.size : Int) < (wrap64 (((a0.extract 0 ((mn (a0.size : Int) 2000) : Int).toNat).size : Int) + 2)) then (driftnetlaw04_QuoteBack.j0 k (a0.extract 0 ((mn (a0.size : Int) 2000) : Int).toNat) t2 true) else (driftnetlaw04_QuoteBack.j0 k (a0.extract 0 ((mn (a0.size : Int) 2000) : Int).toNat) t2 (decide ((t2.size : Int) > (wrap64 ((wrap64 (4 * ((a0.extract 0 ((mn (a0.size : Int) 2000) : Int).toNat).size : Int))) + 2)))))) else (driftnetlaw04_QuoteBack.j0 k (a0.extract 0 ((mn (a0.size : Int) 2000) : Int).toNat) t2 true)))) else (none)) else (none)) else (some false))) = some r := h
  clear h
  replace H := Option.bind_eq_some_iff.mp H
  obtain ⟨t1, A20, H⟩ := H
  replace H : (if t1 = true then (if 0 ≤ (mn (a0.size : Int) 2000) then (if (mn (a0.size : Int) 2000) ≤ (a0.size : Int) then ((quote_Quote.f (a0.extract 0 ((mn (a0.size : Int) 2000) : Int).toNat)).bind fun t2 => ((driftnetlaw04_is.f t2 (a0.extract 0 ((mn (a0.size : Int) 2000) : Int).toNat)).bind fun t3 => (if t3 = true then (if (t2.size : Int) < (wrap64 (((a0.extract 0 ((mn (a0.size : Int) 2000) : Int).toNat).size : Int) + 2)) then (driftnetlaw04_QuoteBack.j0 k (a0.extract 0 ((mn (a0.size : Int) 2000) : Int).toNat) t2 true) else (driftnetlaw04_QuoteBack.j0 k (a0.extract 0 ((mn (a0.size : Int) 2000) : Int).toNat) t2 (decide ((t2.size : Int) > (wrap64 ((wrap64 (4 * ((a0.extract 0 ((mn (a0.size : Int) 2000) : Int).toNat).size : Int))) + 2)))))) else (driftnetlaw04_QuoteBack.j0 k (a0.extract 0 ((mn (a0.size : Int) 2000) : Int).toNat) t2 true)))) else (none)) else (none)) else (some false)) = some r := H
  have A2 := Aside0.mk A20
  clear A20
  by_cases c3 : t1 = true
  · subst c3
    have H1 : (if 0 ≤ (mn (a0.size : Int) 2000) then (if (mn (a0.size : Int) 2000) ≤ (a0.size : Int) then ((quote_Quote.f (a0.extract 0 ((mn (a0.size : Int) 2000) : Int).toNat)).bind fun t2 => ((driftnetlaw04_is.f t2 (a0.extract 0 ((mn (a0.size : Int) 2000) : Int).toNat)).bind fun t3 => (if t3 = true then (if (t2.size : Int) < (wrap64 (((a0.extract 0 ((mn (a0.size : Int) 2000) : Int).toNat).size : Int) + 2)) then (driftnetlaw04_QuoteBack.j0 k (a0.extract 0 ((mn (a0.size : Int) 2000) : Int).toNat) t2 true) else (driftnetlaw04_QuoteBack.j0 k (a0.extract 0 ((mn (a0.size : Int) 2000) : Int).toNat) t2 (decide ((t2.size : Int) > (wrap64 ((wrap64 (4 * ((a0.extract 0 ((mn (a0.size : Int) 2000) : Int).toNat).size : Int))) + 2)))))) else (driftnetlaw04_QuoteBack.j0 k (a0.extract 0 ((mn (a0.size : Int) 2000) : Int).toNat) t2 true)))) else (none)) else (none)) = some r := by rw [if_pos rfl] at H; exact H
    clear H
    have H := H1
    clear H1
    obtain ⟨ji4, hji4⟩ : ∃ j_ : Int, (mn (a0.size : Int) 2000) = j_ := ⟨_, rfl⟩
    replace H : (if 0 ≤ (ji4) then (if (ji4) ≤ (a0.size : Int) then ((quote_Quote.f (a0.extract 0 ((ji4) : Int).toNat)).bind fun t2 => ((driftnetlaw04_is.f t2 (a0.extract 0 ((ji4) : Int).toNat)).bind fun t3 => (if t3 = true then (if (t2.size : Int) < (wrap64 (((a0.extract 0 ((ji4) : Int).toNat).size : Int) + 2)) then (driftnetlaw04_QuoteBack.j0 k (a0.extract 0 ((ji4) : Int).toNat) t2 true) else (driftnetlaw04_QuoteBack.j0 k (a0.extract 0 ((ji4) : Int).toNat) t2 (decide ((t2.size : Int) > (wrap64 ((wrap64 (4 * ((a0.extract 0 ((ji4) : Int).toNat).size : Int))) + 2)))))) else (driftnetlaw04_QuoteBack.j0 k (a0.extract 0 ((ji4) : Int).toNat) t2 true)))) else (none)) else (none)) = some r := by first | (rw [hji4] at H; exact H) | (simp only [hji4] at H ⊢; exact H)
    (try rw [hji4] at A2)
    (try (have hji4h : ji4 ≤ 2000 := by (rw [← hji4]; unfold mn; (repeat' split) <;> omega)))
    (try (have hji4g : ji4 ≤ 64 := by omega))
    (try (have hji4l : 0 ≤ ji4 := by (rw [← hji4]; unfold mn; (repeat' split) <;> omega)))
    (try (have hji4m : 0 ≤ ji4 := by omega))
    have hji4_ : (if 2000 < (a0.size : Int) then 2000 else (a0.size : Int)) = ji4 := hji4
    by_cases c5 : 0 ≤ (ji4)
    · rw [if_pos c5] at H
      have c5b0 := eq_true c5
      have c5b1 : decide (0 ≤ (ji4)) = true := decide_eq_true c5
      clear c5
      by_cases c6 : (ji4) ≤ (a0.size : Int)
      · rw [if_pos c6] at H
        have c6b0 := eq_true c6
        have c6b1 : decide ((ji4) ≤ (a0.size : Int)) = true := decide_eq_true c6
        clear c6
        replace H := Option.bind_eq_some_iff.mp H
        obtain ⟨t2, A70, H⟩ := H
        replace H : ((driftnetlaw04_is.f t2 (a0.extract 0 ((ji4) : Int).toNat)).bind fun t3 => (if t3 = true then (if (t2.size : Int) < (wrap64 (((a0.extract 0 ((ji4) : Int).toNat).size : Int) + 2)) then (driftnetlaw04_QuoteBack.j0 k (a0.extract 0 ((ji4) : Int).toNat) t2 true) else (driftnetlaw04_QuoteBack.j0 k (a0.extract 0 ((ji4) : Int).toNat) t2 (decide ((t2.size : Int) > (wrap64 ((wrap64 (4 * ((a0.extract 0 ((ji4) : Int).toNat).size : Int))) + 2)))))) else (driftnetlaw04_QuoteBack.j0 k (a0.extract 0 ((ji4) : Int).toNat) t2 true))) = some r := H
        have A7 := Aside0.mk A70
        clear A70
        have HC8 := Aside0.mk H
        clear H
        go_enter Tryd.func8, Tryd.ntmps8
        go_upto_region 5 with (first | ((with_reducible refine gate_callee (f := 13) rfl ?_); refine goesL_ (some 7) rfl rfl Tryd.func13 (by kernel_rfl) rfl #[] rfl (by (try simp only [List.map_toArray, List.map_cons, List.map_nil]); first | done | rfl | (simp only [List.length_drop, List.length_take]; rfl)) ?_; (with_reducible refine (driftnetlaw04_works.calls  true _ ?side1 A2.out).mono ?_); (case side1 => exact G.at hG.out (by repeat (first | (with_reducible first | exact HB.out | apply below_alloc | apply pw_below_drewN | apply below_drew1) | exact HB.out))); rintro e w9 ⟨rfl, hb⟩; refine ⟨_, rfl, ?_⟩; have n0_ := Aside0.mk (below_step (by repeat (first | (with_reducible first | exact HB.out | apply below_alloc | apply pw_below_drewN | apply below_drew1) | exact HB.out)) hb); clear HB; have HB := n0_; clear n0_; (try clear hb); (try clear hb2); (try clear hk); (try clear hi)) | ((with_reducible refine gate_callee (f := 11) rfl ?_); refine goesL_ (some 15) rfl rfl Tryd.func11 (by kernel_rfl) rfl #[.string (a0.extract 0 ((ji4) : Int).toNat)] rfl (by (try simp only [List.map_toArray, List.map_cons, List.map_nil]); first | done | (simp only [hji4]; rfl) | rfl | (simp only [List.length_drop, List.length_take]; rfl)) ?_; (with_reducible refine (quote_Quote.calls (a0.extract 0 ((ji4) : Int).toNat) t2 _ ?side1 A7.out).mono ?_); (case side1 => exact G.at hG.out (by repeat (first | (with_reducible first | exact HB.out | apply below_alloc | apply pw_below_drewN | apply below_drew1) | exact HB.out))); rintro e w10 ⟨rfl, hb⟩; refine ⟨_, rfl, ?_⟩; have n0_ := Aside0.mk (below_step (by repeat (first | (with_reducible first | exact HB.out | apply below_alloc | apply pw_below_drewN | apply below_drew1) | exact HB.out)) hb); clear HB; have HB := n0_; clear n0_; (try clear hb); (try clear hb2); (try clear hk); (try clear hi)))
        (try simp only [Act.put, List.setIfInBounds_toArray, List.set_cons_zero, List.set_cons_succ])
        go_cut [36] (fun v36 wc => ∃ (kq : Nat) (x36_7 : Bool), v36 = .bool x36_7 ∧ Aside0 (driftnetlaw04_QuoteBack.j0 kq (a0.extract 0 ((ji4) : Int).toNat) t2 x36_7 = some r) ∧ Aside0 (kq ≤ k) ∧ Aside0 (Below w.heap.size w wc))
        case first =>
          have H := HC8.out
          clear HC8
          replace H := Option.bind_eq_some_iff.mp H
          obtain ⟨t3, A110, H⟩ := H
          replace H : (if t3 = true then (if (t2.size : Int) < (wrap64 (((a0.extract 0 ((ji4) : Int).toNat).size : Int) + 2)) then (driftnetlaw04_QuoteBack.j0 k (a0.extract 0 ((ji4) : Int).toNat) t2 true) else (driftnetlaw04_QuoteBack.j0 k (a0.extract 0 ((ji4) : Int).toNat) t2 (decide ((t2.size : Int) > (wrap64 ((wrap64 (4 * ((a0.extract 0 ((ji4) : Int).toNat).size : Int))) + 2)))))) else (driftnetlaw04_QuoteBack.j0 k (a0.extract 0 ((ji4) : Int).toNat) t2 true)) = some r := H
          have A11 := Aside0.mk A110
          clear A110
          by_cases c12 : t3 = true
          · subst c12
            have H1 : (if (t2.size : Int) < (wrap64 (((a0.extract 0 ((ji4) : Int).toNat).size : Int) + 2)) then (driftnetlaw04_QuoteBack.j0 k (a0.extract 0 ((ji4) : Int).toNat) t2 true) else (driftnetlaw04_QuoteBack.j0 k (a0.extract 0 ((ji4) : Int).toNat) t2 (decide ((t2.size : Int) > (wrap64 ((wrap64 (4 * ((a0.extract 0 ((ji4) : Int).toNat).size : Int))) + 2)))))) = some r := by rw [if_pos rfl] at H; exact H
            clear H
            have H := H1
            clear H1
            by_cases c13 : (t2.size : Int) < (wrap64 (((a0.extract 0 ((ji4) : Int).toNat).size : Int) + 2))
            · rw [if_pos c13] at H
              have c13b0 : decide ((t2.size : Int) < (wrap64 (((a0.extract 0 ((ji4) : Int).toNat).size : Int) + 2))) = true := decide_eq_true c13
              have C13 := Aside0.mk c13
              have HZ13 : Aside0 (((a0.extract 0 ((ji4) : Int).toNat).size : Int) = max ji4 0) := ⟨by rw [ByteArray.size_extract]; have := of_eq_true c5b0; have := of_eq_true c6b0; omega⟩
              have c13n : decide ((t2.size : Int) < max ji4 0 + 2) = true := by (have hz_ := HZ13.out; have c_ := C13.out; rw [hz_] at c_; have j_ := hji4h; first | (refine decide_eq_true ?_; unfold wrap64 at c_; omega) | (refine decide_eq_false ?_; unfold wrap64 at c_; omega))
              have c13m : (((t2.size : Int) < max ji4 0 + 2)) = True := by (have z_ := c13n; simpa using z_)
              clear c13
              (first | rw [c13b0] | (simp only [i64_w, i32_w]; rw [c13b0]) | skip)
              have H' := Aside0.mk H
              clear H
              go_wp2_with (first | ((with_reducible refine gate_callee (f := 17) rfl ?_); refine goesL_ (some 18) rfl rfl Tryd.func17 (by kernel_rfl) rfl #[.string t2, .string (a0.extract 0 ((ji4) : Int).toNat)] rfl (by (try simp only [List.map_toArray, List.map_cons, List.map_nil]); first | done | (simp only [hji4]; rfl) | rfl | (simp only [List.length_drop, List.length_take]; rfl)) ?_; (with_reducible refine (driftnetlaw04_is.calls t2 (a0.extract 0 ((ji4) : Int).toNat) true _ ?side1 A11.out).mono ?_); (case side1 => exact G.at hG.out (by repeat (first | (with_reducible first | exact HB.out | apply below_alloc | apply pw_below_drewN | apply below_drew1) | exact HB.out))); rintro e w14 ⟨rfl, hb⟩; refine ⟨_, rfl, ?_⟩; have n0_ := Aside0.mk (below_step (by repeat (first | (with_reducible first | exact HB.out | apply below_alloc | apply pw_below_drewN | apply below_drew1) | exact HB.out)) hb); clear HB; have HB := n0_; clear n0_; (try clear hb); (try clear hb2); (try clear hk); (try clear hi)))
              go_meet
              case rel => exact ⟨_, (true), (by first | rfl | (simp; done) | (have hz_ := HZ13.out; have c_ := C13.out; rw [hz_] at c_; (first | rw [hz_] | skip); have j_ := of_eq_true c5b0; have k_ := hji4h; refine congrArg Value.bool ?_; rw [Bool.eq_iff_iff]; simp only [Bool.or_eq_true, decide_eq_true_eq, iff_true]; unfold wrap64 at *; omega) | (simp [*]; done)), H', ⟨by first | omega | exact Nat.le_refl _⟩, ⟨by repeat (first | (with_reducible first | exact HB.out | apply below_alloc | apply pw_below_drewN | apply below_drew1) | exact HB.out)⟩⟩
            · rw [if_neg c13] at H
              have c13b0 : decide ((t2.size : Int) < (wrap64 (((a0.extract 0 ((ji4) : Int).toNat).size : Int) + 2))) = false := decide_eq_false c13
              have C13 := Aside0.mk c13
              have HZ13 : Aside0 (((a0.extract 0 ((ji4) : Int).toNat).size : Int) = max ji4 0) := ⟨by rw [ByteArray.size_extract]; have := of_eq_true c5b0; have := of_eq_true c6b0; omega⟩
              have c13n : decide ((t2.size : Int) < max ji4 0 + 2) = false := by (have hz_ := HZ13.out; have c_ := C13.out; rw [hz_] at c_; have j_ := hji4h; first | (refine decide_eq_true ?_; unfold wrap64 at c_; omega) | (refine decide_eq_false ?_; unfold wrap64 at c_; omega))
              have c13m : (((t2.size : Int) < max ji4 0 + 2)) = False := by (have z_ := c13n; simpa using z_)
              clear c13
              (first | rw [c13b0] | (simp only [i64_w, i32_w]; rw [c13b0]) | skip)
              have H' := Aside0.mk H
              clear H
              go_wp2_with (first | ((with_reducible refine gate_callee (f := 17) rfl ?_); refine goesL_ (some 18) rfl rfl Tryd.func17 (by kernel_rfl) rfl #[.string t2, .string (a0.extract 0 ((ji4) : Int).toNat)] rfl (by (try simp only [List.map_toArray, List.map_cons, List.map_nil]); first | done | (simp only [hji4]; rfl) | rfl | (simp only [List.length_drop, List.length_take]; rfl)) ?_; (with_reducible refine (driftnetlaw04_is.calls t2 (a0.extract 0 ((ji4) : Int).toNat) true _ ?side1 A11.out).mono ?_); (case side1 => exact G.at hG.out (by repeat (first | (with_reducible first | exact HB.out | apply below_alloc | apply pw_below_drewN | apply below_drew1) | exact HB.out))); rintro e w15 ⟨rfl, hb⟩; refine ⟨_, rfl, ?_⟩; have n0_ := Aside0.mk (below_step (by repeat (first | (with_reducible first | exact HB.out | apply below_alloc | apply pw_below_drewN | apply below_drew1) | exact HB.out)) hb); clear HB; have HB := n0_; clear n0_; (try clear hb); (try clear hb2); (try clear hk); (try clear hi)))
              go_meet
              case rel => exact ⟨_, (decide ((t2.size : Int) > (wrap64 ((wrap64 (4 * ((a0.extract 0 ((ji4) : Int).toNat).size : Int))) + 2)))), (by first | rfl | (simp; done) | (have hz_ := HZ13.out; have c_ := C13.out; rw [hz_] at c_; (first | rw [hz_] | skip); have j_ := of_eq_true c5b0; have k_ := hji4h; refine congrArg Value.bool ?_; rw [Bool.eq_iff_iff]; simp only [Bool.or_eq_true, decide_eq_true_eq, iff_true]; unfold wrap64 at *; omega) | (simp only [← hji4] <;> (first | rfl | simp)) | (simp [*]; done)), H', ⟨by first | omega | exact Nat.le_refl _⟩, ⟨by repeat (first | (with_reducible first | exact HB.out | apply below_alloc | apply pw_below_drewN | apply below_drew1) | exact HB.out)⟩⟩
          · replace c12 := Bool.eq_false_iff.mpr c12
            subst c12
            have H1 : (driftnetlaw04_QuoteBack.j0 k (a0.extract 0 ((ji4) : Int).toNat) t2 true) = some r := by rw [if_neg (show ¬ (false = true) by decide)] at H; exact H
            clear H
            have H := H1
            clear H1
            have H' := Aside0.mk H
            clear H
            go_wp2_with (first | ((with_reducible refine gate_callee (f := 17) rfl ?_); refine goesL_ (some 18) rfl rfl Tryd.func17 (by kernel_rfl) rfl #[.string t2, .string (a0.extract 0 ((ji4) : Int).toNat)] rfl (by (try simp only [List.map_toArray, List.map_cons, List.map_nil]); first | done | (simp only [hji4]; rfl) | rfl | (simp only [List.length_drop, List.length_take]; rfl)) ?_; (with_reducible refine (driftnetlaw04_is.calls t2 (a0.extract 0 ((ji4) : Int).toNat) false _ ?side1 A11.out).mono ?_); (case side1 => exact G.at hG.out (by repeat (first | (with_reducible first | exact HB.out | apply below_alloc | apply pw_below_drewN | apply below_drew1) | exact HB.out))); rintro e w16 ⟨rfl, hb⟩; refine ⟨_, rfl, ?_⟩; have n0_ := Aside0.mk (below_step (by repeat (first | (with_reducible first | exact HB.out | apply below_alloc | apply pw_below_drewN | apply below_drew1) | exact HB.out)) hb); clear HB; have HB := n0_; clear n0_; (try clear hb); (try clear hb2); (try clear hk); (try clear hi)))
            go_meet
            case rel => exact ⟨_, (true), (by first | rfl | (simp; done) | (simp [*]; done)), H', ⟨by first | omega | exact Nat.le_refl _⟩, ⟨by repeat (first | (with_reducible first | exact HB.out | apply below_alloc | apply pw_below_drewN | apply below_drew1) | exact HB.out)⟩⟩
        case rest =>
          clear HC8
          try clear c1
          try clear p2
          try clear c3
          try clear c5
          try clear c5b0
          try clear c5b1
          try clear c6
          try clear c6b0
          try clear c6b1
          try clear p6
          try clear c8
          try clear c11
          try clear c12
          try clear c13
          try clear c13b0
          obtain ⟨kq, x36_7, rfl, HA, HJ7, HB⟩ := hcut
          cases kq with
          | zero => exact absurd HA.out (by simp [driftnetlaw04_QuoteBack.j0])
          | succ kj7 =>
            have H := HA.out
            clear HA
            simp only [driftnetlaw04_QuoteBack.j0] at H
            by_cases c17 : x36_7 = true
            · subst c17
              have H1 : (some false) = some r := by rw [if_pos rfl] at H; exact H
              clear H
              have H := H1
              clear H1
              obtain rfl := Option.some.inj H
              go_wp2
              go_ret
              exact ⟨by first | rfl | (simp [errW_none, errW_some] <;> rfl) | (simp only [← hji4]; first | rfl | (simp [errW_none, errW_some] <;> rfl)) | (simp [*, errW_none, errW_some] <;> rfl), by repeat (first | (with_reducible first | exact HB.out | apply below_alloc | apply pw_below_drewN | apply below_drew1) | exact HB.out)⟩
            · replace c17 := Bool.eq_false_iff.mpr c17
              subst c17
              have H1 : (driftnetlaw04_QuoteBack.l0 kj7 (a0.extract 0 ((ji4) : Int).toNat) t2) = some r := by rw [if_neg (show ¬ (false = true) by decide)] at H; exact H
              clear H
              have H := H1
              clear H1
              have H' := Aside0.mk H
              clear H
              go_wp2
              go_loopg [4] kj7 (fun kq v4 w' => ∃ (x4_2 : ByteArray), v4 = .string x4_2 ∧ Aside0 (driftnetlaw04_QuoteBack.l0 kq (a0.extract 0 ((ji4) : Int).toNat) x4_2 = some r) ∧ Aside0 (kq ≤ kj7) ∧ Aside0 (Below w.heap.size w w'))
              case atStart => exact ⟨(t2), (by first | rfl | (simp; done) | (simp [*]; done)), H', ⟨Nat.le_refl _⟩, ⟨by repeat (first | (with_reducible first | exact HB.out | apply below_alloc | apply pw_below_drewN | apply below_drew1) | exact HB.out)⟩⟩
              case round =>
                clear H'
                try clear c1
                try clear p2
                try clear c3
                try clear c5
                try clear c5b0
                try clear c5b1
                try clear c6
                try clear c6b0
                try clear c6b1
                try clear p6
                try clear c8
                try clear c11
                try clear c12
                try clear c13
                try clear c13b0
                try clear c17
                try clear p2
                try clear p6
                obtain ⟨x4_2, rfl, HA, HK2, HB⟩ := hrel
                cases gk with
                | zero => exact absurd HA.out (by simp [driftnetlaw04_QuoteBack.l0])
                | succ k2 =>
                  have H := HA.out
                  clear HA
                  simp only [driftnetlaw04_QuoteBack.l0] at H
                  by_cases c18 : x4_2.toList = ([] : List UInt8)
                  · rw [if_pos c18] at H
                    have c18b0 : (x4_2.toList == ([] : List UInt8)) = true := beq_iff_eq.mpr c18
                    have c18b1 : (x4_2.toList != ([] : List UInt8)) = false := bne_eq_false_iff_eq.mpr c18
                    clear c18
                    replace H := Option.bind_eq_some_iff.mp H
                    obtain ⟨t4, A190, H⟩ := H
                    replace H : (if 1 + (a0.extract 0 ((ji4) : Int).toNat).size ≤ 9223372036854775807 then (if ((⟨#[96]⟩ : ByteArray) ++ (a0.extract 0 ((ji4) : Int).toNat)).size + 1 ≤ 9223372036854775807 then ((driftnetlaw04_is.f (((⟨#[96]⟩ : ByteArray) ++ (a0.extract 0 ((ji4) : Int).toNat)) ++ (⟨#[96]⟩ : ByteArray)) (a0.extract 0 ((ji4) : Int).toNat)).bind fun t5 => (some ((!t4) == t5))) else (none)) else (none)) = some r := H
                    have A19 := Aside0.mk A190
                    clear A190
                    by_cases c20 : 1 + (a0.extract 0 ((ji4) : Int).toNat).size ≤ 9223372036854775807
                    · rw [if_pos c20] at H
                      have c20b0 := eq_true c20
                      have c20b1 : decide (1 + (a0.extract 0 ((ji4) : Int).toNat).size ≤ 9223372036854775807) = true := decide_eq_true c20
                      try have c20b2 : (9223372036854775807 < 1 + (a0.extract 0 ((ji4) : Int).toNat).size) = False := eq_false (Nat.not_lt.2 c20)
                      by_cases c21 : ((⟨#[96]⟩ : ByteArray) ++ (a0.extract 0 ((ji4) : Int).toNat)).size + 1 ≤ 9223372036854775807
                      · rw [if_pos c21] at H
                        have c21b0 := eq_true c21
                        have c21b1 : decide (((⟨#[96]⟩ : ByteArray) ++ (a0.extract 0 ((ji4) : Int).toNat)).size + 1 ≤ 9223372036854775807) = true := decide_eq_true c21
                        try have c21b2 : (9223372036854775807 < ((⟨#[96]⟩ : ByteArray) ++ (a0.extract 0 ((ji4) : Int).toNat)).size + 1) = False := eq_false (Nat.not_lt.2 c21)
                        replace H := Option.bind_eq_some_iff.mp H
                        obtain ⟨t5, A220, H⟩ := H
                        replace H : (some ((!t4) == t5)) = some r := H
                        have A22 := Aside0.mk A220
                        clear A220
                        obtain rfl := Option.some.inj H
                        go_wp2_with (first | ((with_reducible refine gate_callee (f := 20) rfl ?_); refine goesL_ (some 67) rfl rfl Tryd.func20 (by kernel_rfl) rfl #[.string (a0.extract 0 ((ji4) : Int).toNat), .string (⟨#[96]⟩ : ByteArray)] rfl (by (try simp only [List.map_toArray, List.map_cons, List.map_nil]); first | done | (simp only [hji4]; rfl) | rfl | (simp only [List.length_drop, List.length_take]; rfl)) ?_; (with_reducible refine (strings_Contains.calls (a0.extract 0 ((ji4) : Int).toNat) (⟨#[96]⟩ : ByteArray) t4 _ A19.out).mono ?_); rintro e w23 ⟨rfl, hb⟩; refine ⟨_, rfl, ?_⟩; have n0_ := Aside0.mk (below_step (by repeat (first | (with_reducible first | exact HB.out | apply below_alloc | apply pw_below_drewN | apply below_drew1) | exact HB.out)) hb); clear HB; have HB := n0_; clear n0_; (try clear hb); (try clear hb2); (try clear hk); (try clear hi)) | ((with_reducible refine gate_callee (f := 17) rfl ?_); refine goesL_ (some 73) rfl rfl Tryd.func17 (by kernel_rfl) rfl #[.string (((⟨#[96]⟩ : ByteArray) ++ (a0.extract 0 ((ji4) : Int).toNat)) ++ (⟨#[96]⟩ : ByteArray)), .string (a0.extract 0 ((ji4) : Int).toNat)] rfl (by (try simp only [List.map_toArray, List.map_cons, List.map_nil]); first | done | (simp only [hji4]; rfl) | rfl | (simp only [List.length_drop, List.length_take]; rfl)) ?_; (with_reducible refine (driftnetlaw04_is.calls (((⟨#[96]⟩ : ByteArray) ++ (a0.extract 0 ((ji4) : Int).toNat)) ++ (⟨#[96]⟩ : ByteArray)) (a0.extract 0 ((ji4) : Int).toNat) t5 _ ?side1 A22.out).mono ?_); (case side1 => exact G.at hG.out (by repeat (first | (with_reducible first | exact HB.out | apply below_alloc | apply pw_below_drewN | apply below_drew1) | exact HB.out))); rintro e w24 ⟨rfl, hb⟩; refine ⟨_, rfl, ?_⟩; have n0_ := Aside0.mk (below_step (by repeat (first | (with_reducible first | exact HB.out | apply below_alloc | apply pw_below_drewN | apply below_drew1) | exact HB.out)) hb); clear HB; have HB := n0_; clear n0_; (try clear hb); (try clear hb2); (try clear hk); (try clear hi)))
                        go_ret
                        exact ⟨by first | rfl | (simp [errW_none, errW_some] <;> rfl) | (simp only [← hji4]; first | rfl | (simp [errW_none, errW_some] <;> rfl)) | (simp [*, errW_none, errW_some] <;> rfl), by repeat (first | (with_reducible first | exact HB.out | apply below_alloc | apply pw_below_drewN | apply below_drew1) | exact HB.out)⟩
                      · rw [if_neg c21] at H
                        exact absurd H (by simp)
                    · rw [if_neg c20] at H
                      exact absurd H (by simp)
                  · rw [if_neg c18] at H
                    have c18b0 : (x4_2.toList == ([] : List UInt8)) = false := beq_eq_false_iff_ne.mpr c18
                    have c18b1 : (x4_2.toList != ([] : List UInt8)) = true := bne_iff_ne.mpr c18
                    replace H := Option.bind_eq_some_iff.mp H
                    obtain ⟨⟨t6, t7⟩, A250, H⟩ := H
                    replace H : (if t7 < 1 then (some false) else (if t6 < 32 then (some false) else (if t6 = 127 then (some false) else (if t6 = 65533 then (if t7 = 1 then (some false) else (if 0 ≤ t7 then (if t7 ≤ (x4_2.size : Int) then (driftnetlaw04_QuoteBack.l0 k2 (a0.extract 0 ((ji4) : Int).toNat) (x4_2.extract (t7 : Int).toNat x4_2.size)) else (none)) else (none))) else (if 0 ≤ t7 then (if t7 ≤ (x4_2.size : Int) then (driftnetlaw04_QuoteBack.l0 k2 (a0.extract 0 ((ji4) : Int).toNat) (x4_2.extract (t7 : Int).toNat x4_2.size)) else (none)) else (none)))))) = some r := H
                    have A25 := Aside0.mk A250
                    clear A250
                    by_cases c26 : t7 < 1
                    · rw [if_pos c26] at H
                      have c26b0 : decide (t7 < 1) = true := decide_eq_true c26
                      clear c26
                      obtain rfl := Option.some.inj H
                      go_wp2_with (first | ((with_reducible refine gate_callee (f := 18) rfl ?_); refine goesL_ (some 42) rfl rfl Tryd.func18 (by kernel_rfl) rfl #[.string x4_2] rfl (by (try simp only [List.map_toArray, List.map_cons, List.map_nil]); first | done | rfl | (simp only [List.length_drop, List.length_take]; rfl)) ?_; (with_reducible refine (quote_Decode.calls x4_2 t6 t7 _ ?side1 A25.out).mono ?_); (case side1 => exact G.at hG.out (by repeat (first | (with_reducible first | exact HB.out | apply below_alloc | apply pw_below_drewN | apply below_drew1) | exact HB.out))); rintro e w27 ⟨rfl, hb⟩; refine ⟨_, rfl, ?_⟩; have n0_ := Aside0.mk (below_step (by repeat (first | (with_reducible first | exact HB.out | apply below_alloc | apply pw_below_drewN | apply below_drew1) | exact HB.out)) hb); clear HB; have HB := n0_; clear n0_; (try clear hb); (try clear hb2); (try clear hk); (try clear hi)))
                      go_ret
                      exact ⟨by first | rfl | (simp [errW_none, errW_some] <;> rfl) | (simp only [← hji4]; first | rfl | (simp [errW_none, errW_some] <;> rfl)) | (simp [*, errW_none, errW_some] <;> rfl), by repeat (first | (with_reducible first | exact HB.out | apply below_alloc | apply pw_below_drewN | apply below_drew1) | exact HB.out)⟩
                    · rw [if_neg c26] at H
                      have c26b0 : decide (t7 < 1) = false := decide_eq_false c26
                      clear c26
                      by_cases c28 : t6 < 32
                      · rw [if_pos c28] at H
                        have c28b0 : decide (t6 < 32) = true := decide_eq_true c28
                        clear c28
                        obtain rfl := Option.some.inj H
                        go_wp2_with (first | ((with_reducible refine gate_callee (f := 18) rfl ?_); refine goesL_ (some 42) rfl rfl Tryd.func18 (by kernel_rfl) rfl #[.string x4_2] rfl (by (try simp only [List.map_toArray, List.map_cons, List.map_nil]); first | done | rfl | (simp only [List.length_drop, List.length_take]; rfl)) ?_; (with_reducible refine (quote_Decode.calls x4_2 t6 t7 _ ?side1 A25.out).mono ?_); (case side1 => exact G.at hG.out (by repeat (first | (with_reducible first | exact HB.out | apply below_alloc | apply pw_below_drewN | apply below_drew1) | exact HB.out))); rintro e w29 ⟨rfl, hb⟩; refine ⟨_, rfl, ?_⟩; have n0_ := Aside0.mk (below_step (by repeat (first | (with_reducible first | exact HB.out | apply below_alloc | apply pw_below_drewN | apply below_drew1) | exact HB.out)) hb); clear HB; have HB := n0_; clear n0_; (try clear hb); (try clear hb2); (try clear hk); (try clear hi)))
                        go_ret
                        exact ⟨by first | rfl | (simp [errW_none, errW_some] <;> rfl) | (simp only [← hji4]; first | rfl | (simp [errW_none, errW_some] <;> rfl)) | (simp [*, errW_none, errW_some] <;> rfl), by repeat (first | (with_reducible first | exact HB.out | apply below_alloc | apply pw_below_drewN | apply below_drew1) | exact HB.out)⟩
                      · rw [if_neg c28] at H
                        have c28b0 : decide (t6 < 32) = false := decide_eq_false c28
                        clear c28
                        by_cases c30 : t6 = 127
                        · rw [if_pos c30] at H
                          have c30b0 : (t6 == 127) = true := beq_iff_eq.mpr c30
                          have c30b1 : (t6 != 127) = false := bne_eq_false_iff_eq.mpr c30
                          clear c30
                          obtain rfl := Option.some.inj H
                          go_wp2_with (first | ((with_reducible refine gate_callee (f := 18) rfl ?_); refine goesL_ (some 42) rfl rfl Tryd.func18 (by kernel_rfl) rfl #[.string x4_2] rfl (by (try simp only [List.map_toArray, List.map_cons, List.map_nil]); first | done | rfl | (simp only [List.length_drop, List.length_take]; rfl)) ?_; (with_reducible refine (quote_Decode.calls x4_2 t6 t7 _ ?side1 A25.out).mono ?_); (case side1 => exact G.at hG.out (by repeat (first | (with_reducible first | exact HB.out | apply below_alloc | apply pw_below_drewN | apply below_drew1) | exact HB.out))); rintro e w31 ⟨rfl, hb⟩; refine ⟨_, rfl, ?_⟩; have n0_ := Aside0.mk (below_step (by repeat (first | (with_reducible first | exact HB.out | apply below_alloc | apply pw_below_drewN | apply below_drew1) | exact HB.out)) hb); clear HB; have HB := n0_; clear n0_; (try clear hb); (try clear hb2); (try clear hk); (try clear hi)))
                          go_ret
                          exact ⟨by first | rfl | (simp [errW_none, errW_some] <;> rfl) | (simp only [← hji4]; first | rfl | (simp [errW_none, errW_some] <;> rfl)) | (simp [*, errW_none, errW_some] <;> rfl), by repeat (first | (with_reducible first | exact HB.out | apply below_alloc | apply pw_below_drewN | apply below_drew1) | exact HB.out)⟩
                        · rw [if_neg c30] at H
                          have c30b0 : (t6 == 127) = false := beq_eq_false_iff_ne.mpr c30
                          have c30b1 : (t6 != 127) = true := bne_iff_ne.mpr c30
                          by_cases c32 : t6 = 65533
                          · rw [if_pos c32] at H
                            have c32b0 : (t6 == 65533) = true := beq_iff_eq.mpr c32
                            have c32b1 : (t6 != 65533) = false := bne_eq_false_iff_eq.mpr c32
                            clear c32
                            by_cases c33 : t7 = 1
                            · rw [if_pos c33] at H
                              have c33b0 : (t7 == 1) = true := beq_iff_eq.mpr c33
                              have c33b1 : (t7 != 1) = false := bne_eq_false_iff_eq.mpr c33
                              clear c33
                              obtain rfl := Option.some.inj H
                              go_wp2_with (first | ((with_reducible refine gate_callee (f := 18) rfl ?_); refine goesL_ (some 42) rfl rfl Tryd.func18 (by kernel_rfl) rfl #[.string x4_2] rfl (by (try simp only [List.map_toArray, List.map_cons, List.map_nil]); first | done | rfl | (simp only [List.length_drop, List.length_take]; rfl)) ?_; (with_reducible refine (quote_Decode.calls x4_2 t6 t7 _ ?side1 A25.out).mono ?_); (case side1 => exact G.at hG.out (by repeat (first | (with_reducible first | exact HB.out | apply below_alloc | apply pw_below_drewN | apply below_drew1) | exact HB.out))); rintro e w34 ⟨rfl, hb⟩; refine ⟨_, rfl, ?_⟩; have n0_ := Aside0.mk (below_step (by repeat (first | (with_reducible first | exact HB.out | apply below_alloc | apply pw_below_drewN | apply below_drew1) | exact HB.out)) hb); clear HB; have HB := n0_; clear n0_; (try clear hb); (try clear hb2); (try clear hk); (try clear hi)))
                              go_ret
                              exact ⟨by first | rfl | (simp [errW_none, errW_some] <;> rfl) | (simp only [← hji4]; first | rfl | (simp [errW_none, errW_some] <;> rfl)) | (simp [*, errW_none, errW_some] <;> rfl), by repeat (first | (with_reducible first | exact HB.out | apply below_alloc | apply pw_below_drewN | apply below_drew1) | exact HB.out)⟩
                            · rw [if_neg c33] at H
                              have c33b0 : (t7 == 1) = false := beq_eq_false_iff_ne.mpr c33
                              have c33b1 : (t7 != 1) = true := bne_iff_ne.mpr c33
                              by_cases c35 : 0 ≤ t7
                              · rw [if_pos c35] at H
                                have c35b0 := eq_true c35
                                have c35b1 : decide (0 ≤ t7) = true := decide_eq_true c35
                                clear c35
                                by_cases c36 : t7 ≤ (x4_2.size : Int)
                                · rw [if_pos c36] at H
                                  have c36b0 := eq_true c36
                                  have c36b1 : decide (t7 ≤ (x4_2.size : Int)) = true := decide_eq_true c36
                                  clear c36
                                  have H' := Aside0.mk H
                                  clear H
                                  go_wp2_with (first | ((with_reducible refine gate_callee (f := 18) rfl ?_); refine goesL_ (some 42) rfl rfl Tryd.func18 (by kernel_rfl) rfl #[.string x4_2] rfl (by (try simp only [List.map_toArray, List.map_cons, List.map_nil]); first | done | rfl | (simp only [List.length_drop, List.length_take]; rfl)) ?_; (with_reducible refine (quote_Decode.calls x4_2 t6 t7 _ ?side1 A25.out).mono ?_); (case side1 => exact G.at hG.out (by repeat (first | (with_reducible first | exact HB.out | apply below_alloc | apply pw_below_drewN | apply below_drew1) | exact HB.out))); rintro e w37 ⟨rfl, hb⟩; refine ⟨_, rfl, ?_⟩; have n0_ := Aside0.mk (below_step (by repeat (first | (with_reducible first | exact HB.out | apply below_alloc | apply pw_below_drewN | apply below_drew1) | exact HB.out)) hb); clear HB; have HB := n0_; clear n0_; (try clear hb); (try clear hb2); (try clear hk); (try clear hi)))
                                  go_roundg k2
                                  case measure => have := HJ7.out; have := HK2.out; omega
                                  case rel => exact ⟨(x4_2.extract (t7 : Int).toNat x4_2.size), (by first | rfl | (simp; done) | (simp [*]; done)), H', ⟨by have := HJ7.out; have := HK2.out; omega⟩, ⟨by repeat (first | (with_reducible first | exact HB.out | apply below_alloc | apply pw_below_drewN | apply below_drew1) | exact HB.out)⟩⟩
                                · rw [if_neg c36] at H
                                  exact absurd H (by simp)
                              · rw [if_neg c35] at H
                                exact absurd H (by simp)
                          · rw [if_neg c32] at H
                            have c32b0 : (t6 == 65533) = false := beq_eq_false_iff_ne.mpr c32
                            have c32b1 : (t6 != 65533) = true := bne_iff_ne.mpr c32
                            by_cases c38 : 0 ≤ t7
                            · rw [if_pos c38] at H
                              have c38b0 := eq_true c38
                              have c38b1 : decide (0 ≤ t7) = true := decide_eq_true c38
                              clear c38
                              by_cases c39 : t7 ≤ (x4_2.size : Int)
                              · rw [if_pos c39] at H
                                have c39b0 := eq_true c39
                                have c39b1 : decide (t7 ≤ (x4_2.size : Int)) = true := decide_eq_true c39
                                clear c39
                                have H' := Aside0.mk H
                                clear H
                                go_wp2_with (first | ((with_reducible refine gate_callee (f := 18) rfl ?_); refine goesL_ (some 42) rfl rfl Tryd.func18 (by kernel_rfl) rfl #[.string x4_2] rfl (by (try simp only [List.map_toArray, List.map_cons, List.map_nil]); first | done | rfl | (simp only [List.length_drop, List.length_take]; rfl)) ?_; (with_reducible refine (quote_Decode.calls x4_2 t6 t7 _ ?side1 A25.out).mono ?_); (case side1 => exact G.at hG.out (by repeat (first | (with_reducible first | exact HB.out | apply below_alloc | apply pw_below_drewN | apply below_drew1) | exact HB.out))); rintro e w40 ⟨rfl, hb⟩; refine ⟨_, rfl, ?_⟩; have n0_ := Aside0.mk (below_step (by repeat (first | (with_reducible first | exact HB.out | apply below_alloc | apply pw_below_drewN | apply below_drew1) | exact HB.out)) hb); clear HB; have HB := n0_; clear n0_; (try clear hb); (try clear hb2); (try clear hk); (try clear hi)))
                                go_roundg k2
                                case measure => have := HJ7.out; have := HK2.out; omega
                                case rel => exact ⟨(x4_2.extract (t7 : Int).toNat x4_2.size), (by first | rfl | (simp; done) | (simp [*]; done)), H', ⟨by have := HJ7.out; have := HK2.out; omega⟩, ⟨by repeat (first | (with_reducible first | exact HB.out | apply below_alloc | apply pw_below_drewN | apply below_drew1) | exact HB.out)⟩⟩
                              · rw [if_neg c39] at H
                                exact absurd H (by simp)
                            · rw [if_neg c38] at H
                              exact absurd H (by simp)
      · rw [if_neg c6] at H
        exact absurd H (by simp)
    · rw [if_neg c5] at H
      exact absurd H (by simp)
  · replace c3 := Bool.eq_false_iff.mpr c3
    subst c3
    have H1 : (some false) = some r := by rw [if_neg (show ¬ (false = true) by decide)] at H; exact H
    clear H
    have H := H1
    clear H1
    obtain rfl := Option.some.inj H
    go_enter Tryd.func8, Tryd.ntmps8
    go_wp2_with (first | ((with_reducible refine gate_callee (f := 13) rfl ?_); refine goesL_ (some 7) rfl rfl Tryd.func13 (by kernel_rfl) rfl #[] rfl (by (try simp only [List.map_toArray, List.map_cons, List.map_nil]); first | done | rfl | (simp only [List.length_drop, List.length_take]; rfl)) ?_; (with_reducible refine (driftnetlaw04_works.calls  false _ ?side1 A2.out).mono ?_); (case side1 => exact G.at hG.out (by repeat (first | (with_reducible first | exact HB.out | apply below_alloc | apply pw_below_drewN | apply below_drew1) | exact HB.out))); rintro e w41 ⟨rfl, hb⟩; refine ⟨_, rfl, ?_⟩; have n0_ := Aside0.mk (below_step (by repeat (first | (with_reducible first | exact HB.out | apply below_alloc | apply pw_below_drewN | apply below_drew1) | exact HB.out)) hb); clear HB; have HB := n0_; clear n0_; (try clear hb); (try clear hb2); (try clear hk); (try clear hi)))
    go_ret
    exact ⟨by first | rfl | (simp [errW_none, errW_some] <;> rfl) | (simp [*, errW_none, errW_some] <;> rfl), by repeat (first | (with_reducible first | exact HB.out | apply below_alloc | apply pw_below_drewN | apply below_drew1) | exact HB.out)⟩

/-- THE ONE PURE STATEMENT of driftnetlaw04_QuoteBack: yours. -/
def driftnetlaw04_QuoteBack.Pure : Prop := ∀ (a0 : ByteArray), a0.size ≤ 140737488351232 → ∃ k, driftnetlaw04_QuoteBack.f k a0 = some true
theorem driftnetlaw04_QuoteBack.walk (P : driftnetlaw04_QuoteBack.Pure) (a0 : ByteArray) (w : World) (hG : Aside0 (G w)) (w0 : a0.size ≤ 140737488351232) :
    Calls Tryd.prog 8 #[.string a0] w fun e w' => e = .returned (.bool true) ∧ Below w.heap.size w w' := by
  obtain ⟨k, h⟩ := P a0 w0
  refine (driftnetlaw04_QuoteBack.calls k a0 true w hG h).mono ?_
  rintro e w' ⟨rfl, hd⟩
  exact ⟨rfl, hd⟩

end Go.Proofs.YtcpknkdnboiecaaDoor.P
