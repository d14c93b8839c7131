/- LexOne: each token of a text, cut by itself, is the same; its tied card, of all texts. -/
import Derived.Test.YtioofhilohmfbaaGreatDoorBOne5
section
namespace Go.Proofs.YtioofhilohmfbaaGreatDoor.P
open Go.RowKit Go.Proofs.YtioofhilohmfbaaGreatDoorW.PrintWords Go.Proofs.YtioofhilohmfbaaGreatDoorW.PrintLast Go.Proofs.YtioofhilohmfbaaGreatDoorW.PrintMore
attribute [local go_sem] max2_int min2_int max_two min_two max_three min_three max_four min_four
set_option linter.unusedVariables false
set_option linter.unusedSimpArgs false
/-! ### driftnetlaw20_awake: function 12 -/
def driftnetlaw20_awake.f (k : Nat)  : Option (Bool) := (driftnetlaw20_wrong.f k (⟨#[123, 97, 61, 126, 34, 120, 34, 125, 32, 124, 61, 32, 39, 121]⟩ : ByteArray) 12).bind fun t1 => (if t1 = true then ((driftnetlaw20_is.f k (⟨#[114, 97, 116, 101, 40, 123, 97, 33, 61, 34, 120, 92, 34, 34, 125, 91, 53, 109, 93, 41, 32, 62, 61, 32, 49, 46, 53]⟩ : ByteArray) (⟨#[114, 97, 116, 101, 32, 40, 32, 123, 32, 97, 32, 33, 61, 32, 120, 34, 32, 125, 32, 91, 32, 53, 109, 32, 93, 32, 41, 32, 62, 61, 32, 49, 46, 53]⟩ : ByteArray)).bind fun t2 => (if t2 = true then ((driftnetlaw20_wrong.f k (⟨#[53, 75, 66, 32, 53, 120]⟩ : ByteArray) 4).bind fun t3 => (some t3)) else (some false))) else (some false))
theorem driftnetlaw20_awake.mono : ∀ k, LeO (driftnetlaw20_awake.f k ) (driftnetlaw20_awake.f (k + 1) ) := by
  intro  k
  unfold driftnetlaw20_awake.f
  repeat' first
      | (with_reducible exact driftnetlaw20_is.mono _ _ _)
      | (with_reducible exact driftnetlaw20_wrong.mono _ _ _)
      | (with_reducible exact LeO.refl _)
      | (with_reducible exact LeO.none _)
      | (with_reducible refine LeO.ite ?_ ?_)
      | (with_reducible refine LeO.bind ?_ (fun _ => ?_))
      | exact driftnetlaw20_is.mono _ _ _
      | exact driftnetlaw20_wrong.mono _ _ _
      | exact LeO.none _
      | refine LeO.ite ?_ ?_
      | refine LeO.bind ?_ (fun _ => ?_)
set_option maxHeartbeats 8000000 in
set_option maxRecDepth 100000 in
theorem driftnetlaw20_awake.calls (k : Nat)  (r : Bool) (w : World) (hG : Aside0 (G w)) (h : driftnetlaw20_awake.f k  = some r) :
    Calls Tryz.prog 12 #[] w fun e w' => e = .returned (.bool r) ∧ Below w.heap.size w w' := by
  have HB := Aside0.mk (Below.refl w.heap.size w)
  have H : ((driftnetlaw20_wrong.f k (⟨#[123, 97, 61, 126, 34, 120, 34, 125, 32, 124, 61, 32, 39, 121]⟩ : ByteArray) 12).bind fun t1 => (if t1 = true then ((driftnetlaw20_is.f k (⟨#[114, 97, 116, 101, 40, 123, 97, 33, 61, 34, 120, 92, 34, 34, 125, 91, 53, 109, 93, 41, 32, 62, 61, 32, 49, 46, 53]⟩ : ByteArray) (⟨#[114, 97, 116, 101, 32, 40, 32, 123, 32, 97, 32, 33, 61, 32, 120, 34, 32, 125, 32, 91, 32, 53, 109, 32, 93, 32, 41, 32, 62, 61, 32, 49, 46, 53]⟩ : ByteArray)).bind fun t2 => (if t2 = true then ((driftnetlaw20_wrong.f k (⟨#[53, 75, 66, 32, 53, 120]⟩ : ByteArray) 4).bind fun t3 => (some t3)) else (some false))) else (some false))) = some r := h
  clear h
  replace H := Option.bind_eq_some_iff.mp H
  obtain ⟨t1, A10, H⟩ := H
  replace H : (if t1 = true then ((driftnetlaw20_is.f k (⟨#[114, 97, 116, 101, 40, 123, 97, 33, 61, 34, 120, 92, 34, 34, 125, 91, 53, 109, 93, 41, 32, 62, 61, 32, 49, 46, 53]⟩ : ByteArray) (⟨#[114, 97, 116, 101, 32, 40, 32, 123, 32, 97, 32, 33, 61, 32, 120, 34, 32, 125, 32, 91, 32, 53, 109, 32, 93, 32, 41, 32, 62, 61, 32, 49, 46, 53]⟩ : ByteArray)).bind fun t2 => (if t2 = true then ((driftnetlaw20_wrong.f k (⟨#[53, 75, 66, 32, 53, 120]⟩ : ByteArray) 4).bind fun t3 => (some t3)) else (some false))) else (some false)) = some r := H
  have A1 := Aside0.mk A10
  clear A10
  by_cases c2 : t1 = true
  · subst c2
    have H1 : ((driftnetlaw20_is.f k (⟨#[114, 97, 116, 101, 40, 123, 97, 33, 61, 34, 120, 92, 34, 34, 125, 91, 53, 109, 93, 41, 32, 62, 61, 32, 49, 46, 53]⟩ : ByteArray) (⟨#[114, 97, 116, 101, 32, 40, 32, 123, 32, 97, 32, 33, 61, 32, 120, 34, 32, 125, 32, 91, 32, 53, 109, 32, 93, 32, 41, 32, 62, 61, 32, 49, 46, 53]⟩ : ByteArray)).bind fun t2 => (if t2 = true then ((driftnetlaw20_wrong.f k (⟨#[53, 75, 66, 32, 53, 120]⟩ : ByteArray) 4).bind fun t3 => (some t3)) else (some false))) = some r := by rw [if_pos rfl] at H; exact H
    clear H
    have H := H1
    clear H1
    replace H := Option.bind_eq_some_iff.mp H
    obtain ⟨t2, A30, H⟩ := H
    replace H : (if t2 = true then ((driftnetlaw20_wrong.f k (⟨#[53, 75, 66, 32, 53, 120]⟩ : ByteArray) 4).bind fun t3 => (some t3)) else (some false)) = some r := H
    have A3 := Aside0.mk A30
    clear A30
    by_cases c4 : t2 = true
    · subst c4
      have H1 : ((driftnetlaw20_wrong.f k (⟨#[53, 75, 66, 32, 53, 120]⟩ : ByteArray) 4).bind fun t3 => (some t3)) = some r := by rw [if_pos rfl] at H; exact H
      clear H
      have H := H1
      clear H1
      replace H := Option.bind_eq_some_iff.mp H
      obtain ⟨t3, A50, H⟩ := H
      replace H : (some t3) = some r := H
      have A5 := Aside0.mk A50
      clear A50
      obtain rfl := Option.some.inj H
      go_enter Tryz.func12, Tryz.ntmps12
      go_wp2_with (first | (go_at_call 24; (with_reducible refine (driftnetlaw20_wrong.calls k (⟨#[123, 97, 61, 126, 34, 120, 34, 125, 32, 124, 61, 32, 39, 121]⟩ : ByteArray) 12 true _ ?side1 A1.out).mono ?_); (case side1 => exact G.at hG.out (lc HB.out)); rintro e w6 ⟨rfl, hb⟩; have n0_ := Aside0.mk (below_step (lc HB.out) hb); clear HB; have HB := n0_; clear n0_; (try clear hb); (try clear hb2); (try clear hk); (try clear hi)) | (go_at_call 25; (with_reducible refine (driftnetlaw20_is.calls k (⟨#[114, 97, 116, 101, 40, 123, 97, 33, 61, 34, 120, 92, 34, 34, 125, 91, 53, 109, 93, 41, 32, 62, 61, 32, 49, 46, 53]⟩ : ByteArray) (⟨#[114, 97, 116, 101, 32, 40, 32, 123, 32, 97, 32, 33, 61, 32, 120, 34, 32, 125, 32, 91, 32, 53, 109, 32, 93, 32, 41, 32, 62, 61, 32, 49, 46, 53]⟩ : ByteArray) true _ ?side1 A3.out).mono ?_); (case side1 => exact G.at hG.out (lc HB.out)); rintro e w7 ⟨rfl, hb⟩; have n0_ := Aside0.mk (below_step (lc HB.out) hb); clear HB; have HB := n0_; clear n0_; (try clear hb); (try clear hb2); (try clear hk); (try clear hi)) | (go_at_call 24; (with_reducible refine (driftnetlaw20_wrong.calls k (⟨#[53, 75, 66, 32, 53, 120]⟩ : ByteArray) 4 t3 _ ?side1 A5.out).mono ?_); (case side1 => exact G.at hG.out (lc HB.out)); rintro e w8 ⟨rfl, hb⟩; have n0_ := Aside0.mk (below_step (lc HB.out) hb); clear HB; have HB := n0_; clear n0_; (try clear hb); (try clear hb2); (try clear hk); (try clear hi)))
      go_ret
      exact ⟨by first | rfl | (simp [errW_none, errW_some] <;> rfl) | (simp [*, errW_none, errW_some] <;> rfl), by exact lc HB.out⟩
    · replace c4 := Bool.eq_false_iff.mpr c4
      subst c4
      have H1 : (some false) = some r := by rw [if_neg (show ¬ (false = true) by decide)] at H; exact H
      clear H
      have H := H1
      clear H1
      obtain rfl := Option.some.inj H
      go_enter Tryz.func12, Tryz.ntmps12
      go_wp2_with (first | (go_at_call 24; (with_reducible refine (driftnetlaw20_wrong.calls k (⟨#[123, 97, 61, 126, 34, 120, 34, 125, 32, 124, 61, 32, 39, 121]⟩ : ByteArray) 12 true _ ?side1 A1.out).mono ?_); (case side1 => exact G.at hG.out (lc HB.out)); rintro e w9 ⟨rfl, hb⟩; have n0_ := Aside0.mk (below_step (lc HB.out) hb); clear HB; have HB := n0_; clear n0_; (try clear hb); (try clear hb2); (try clear hk); (try clear hi)) | (go_at_call 25; (with_reducible refine (driftnetlaw20_is.calls k (⟨#[114, 97, 116, 101, 40, 123, 97, 33, 61, 34, 120, 92, 34, 34, 125, 91, 53, 109, 93, 41, 32, 62, 61, 32, 49, 46, 53]⟩ : ByteArray) (⟨#[114, 97, 116, 101, 32, 40, 32, 123, 32, 97, 32, 33, 61, 32, 120, 34, 32, 125, 32, 91, 32, 53, 109, 32, 93, 32, 41, 32, 62, 61, 32, 49, 46, 53]⟩ : ByteArray) false _ ?side1 A3.out).mono ?_); (case side1 => exact G.at hG.out (lc HB.out)); rintro e w10 ⟨rfl, hb⟩; have n0_ := Aside0.mk (below_step (lc HB.out) hb); clear HB; have HB := n0_; clear n0_; (try clear hb); (try clear hb2); (try clear hk); (try clear hi)))
      go_ret
      exact ⟨by first | rfl | (simp [errW_none, errW_some] <;> rfl) | (simp [*, errW_none, errW_some] <;> rfl), by exact lc HB.out⟩
  · replace c2 := Bool.eq_false_iff.mpr c2
    subst c2
    have H1 : (some false) = some r := by rw [if_neg (show ¬ (false = true) by decide)] at H; exact H
    clear H
    have H := H1
    clear H1
    obtain rfl := Option.some.inj H
    go_enter Tryz.func12, Tryz.ntmps12
    go_wp2_with (first | (go_at_call 24; (with_reducible refine (driftnetlaw20_wrong.calls k (⟨#[123, 97, 61, 126, 34, 120, 34, 125, 32, 124, 61, 32, 39, 121]⟩ : ByteArray) 12 false _ ?side1 A1.out).mono ?_); (case side1 => exact G.at hG.out (lc HB.out)); rintro e w11 ⟨rfl, hb⟩; have n0_ := Aside0.mk (below_step (lc HB.out) hb); clear HB; have HB := n0_; clear n0_; (try clear hb); (try clear hb2); (try clear hk); (try clear hi)))
    go_ret
    exact ⟨by first | rfl | (simp [errW_none, errW_some] <;> rfl) | (simp [*, errW_none, errW_some] <;> rfl), by exact lc HB.out⟩
end Go.Proofs.YtioofhilohmfbaaGreatDoor.P
end
section
namespace Go.Proofs.YtioofhilohmfbaaGreatDoor.P
open Go.RowKit Go.Proofs.YtioofhilohmfbaaGreatDoorW.PrintWords Go.Proofs.YtioofhilohmfbaaGreatDoorW.PrintLast Go.Proofs.YtioofhilohmfbaaGreatDoorW.PrintMore
attribute [local go_sem] max2_int min2_int max_two min_two max_three min_three max_four min_four
set_option linter.unusedVariables false
set_option linter.unusedSimpArgs false
/-! ### driftnetlaw20_LexOne: function 4 -/
mutual
def driftnetlaw20_LexOne.l0 : Nat → ByteArray → List (S32) → Int → Option (Bool)
  | 0, _, _, _ => none
  | k + 1, x0, x3, x6 => if x6 < (x3.length : Int) then (if (wrap64 (x6 + 1)) < (x3.length : Int) then (if 0 ≤ (wrap64 (x6 + 1)) then (driftnetlaw20_LexOne.j1 k x0 x3 x6 ((rd_T32 x3 (wrap64 (x6 + 1))).f2)) else (none)) else (driftnetlaw20_LexOne.j1 k x0 x3 x6 (x0.size : Int))) else ((driftnetlaw20_awake.f k).bind fun t7 => (some t7))
def driftnetlaw20_LexOne.j1 : Nat → ByteArray → List (S32) → Int → Int → Option (Bool)
  | 0, _, _, _, _ => none
  | k + 1, x0, x3, x6, x7 => if 0 ≤ x6 then (if x6 < (x3.length : Int) then (if ((rd_T32 x3 x6).f2) < 0 then (driftnetlaw20_LexOne.j2 k x0 x3 x6 x7 true) else (if ((rd_T32 x3 x6).f2) > x7 then (driftnetlaw20_LexOne.j2 k x0 x3 x6 x7 true) else (driftnetlaw20_LexOne.j2 k x0 x3 x6 x7 (decide (x7 > (x0.size : Int)))))) else (none)) else (none)
def driftnetlaw20_LexOne.j2 : Nat → ByteArray → List (S32) → Int → Int → Bool → Option (Bool)
  | 0, _, _, _, _, _ => none
  | k + 1, x0, x3, x6, x7, x64 => if x64 = true then (some false) else (if 0 ≤ x6 then (if x6 < (x3.length : Int) then (if 0 ≤ ((rd_T32 x3 x6).f2) then (if ((rd_T32 x3 x6).f2) ≤ x7 then (if x7 ≤ (x0.size : Int) then ((lex_Tokens.f k (x0.extract (((rd_T32 x3 x6).f2) : Int).toNat (x7 : Int).toNat)).bind fun bt12 => (if bt12.2.2 = 0 then (if (bt12.1.length : Int) = 1 then (if 0 < (bt12.1.length : Int) then (if ((rd_T32 bt12.1 0).f0) = ((rd_T32 x3 x6).f0) then (if ((rd_T32 bt12.1 0).f1).toList = ((rd_T32 x3 x6).f1).toList then (if ((rd_T32 bt12.1 0).f2) = 0 then (driftnetlaw20_LexOne.l0 k x0 x3 (wrap64 (x6 + 1))) else (some false)) else (some false)) else (some false)) else (none)) else (some false)) else (some false))) else (none)) else (none)) else (none)) else (none)) else (none))
end
def driftnetlaw20_LexOne.f (k : Nat) (a0 : ByteArray) : Option (Bool) := if 0 ≤ (mn (a0.size : Int) 200) then (if (mn (a0.size : Int) 200) ≤ (a0.size : Int) then ((lex_Tokens.f k (a0.extract 0 ((mn (a0.size : Int) 200) : Int).toNat)).bind fun bt1 => (if bt1.2.2 = 0 then (driftnetlaw20_LexOne.l0 k (a0.extract 0 ((mn (a0.size : Int) 200) : Int).toNat) bt1.1 0) else ((driftnetlaw20_awake.f k).bind fun t6 => (some t6)))) else (none)) else (none)
theorem driftnetlaw20_LexOne.mono_l : ∀ k, (∀ y0 y1 y2, LeO (driftnetlaw20_LexOne.l0 k y0 y1 y2) (driftnetlaw20_LexOne.l0 (k + 1) y0 y1 y2)) ∧ (∀ y0 y1 y2 y3, LeO (driftnetlaw20_LexOne.j1 k y0 y1 y2 y3) (driftnetlaw20_LexOne.j1 (k + 1) y0 y1 y2 y3)) ∧ (∀ y0 y1 y2 y3 y4, LeO (driftnetlaw20_LexOne.j2 k y0 y1 y2 y3 y4) (driftnetlaw20_LexOne.j2 (k + 1) y0 y1 y2 y3 y4))
  | 0 => ⟨fun _ _ _ r h => by simp [driftnetlaw20_LexOne.l0] at h, fun _ _ _ _ r h => by simp [driftnetlaw20_LexOne.j1] at h, fun _ _ _ _ _ r h => by simp [driftnetlaw20_LexOne.j2] at h⟩
  | k + 1 => by
    obtain ⟨ih0, ih1, ih2⟩ := driftnetlaw20_LexOne.mono_l k
    refine ⟨?_, ?_, ?_⟩
    · intro y0 y1 y2
      unfold driftnetlaw20_LexOne.l0
      repeat' first
      | (with_reducible exact ih0 _ _ _)
      | (with_reducible exact ih1 _ _ _ _)
      | (with_reducible exact ih2 _ _ _ _ _)
      | (with_reducible exact driftnetlaw20_awake.mono _)
      | (with_reducible exact lex_Tokens.mono _ _)
      | (with_reducible exact LeO.refl _)
      | (with_reducible exact LeO.none _)
      | (with_reducible refine LeO.ite ?_ ?_)
      | (with_reducible refine LeO.bind ?_ (fun _ => ?_))
      | exact ih0 _ _ _
      | exact ih1 _ _ _ _
      | exact ih2 _ _ _ _ _
      | exact driftnetlaw20_awake.mono _
      | exact lex_Tokens.mono _ _
      | exact LeO.none _
      | refine LeO.ite ?_ ?_
      | refine LeO.bind ?_ (fun _ => ?_)
    · intro y0 y1 y2 y3
      unfold driftnetlaw20_LexOne.j1
      repeat' first
      | (with_reducible exact ih0 _ _ _)
      | (with_reducible exact ih1 _ _ _ _)
      | (with_reducible exact ih2 _ _ _ _ _)
      | (with_reducible exact driftnetlaw20_awake.mono _)
      | (with_reducible exact lex_Tokens.mono _ _)
      | (with_reducible exact LeO.refl _)
      | (with_reducible exact LeO.none _)
      | (with_reducible refine LeO.ite ?_ ?_)
      | (with_reducible refine LeO.bind ?_ (fun _ => ?_))
      | exact ih0 _ _ _
      | exact ih1 _ _ _ _
      | exact ih2 _ _ _ _ _
      | exact driftnetlaw20_awake.mono _
      | exact lex_Tokens.mono _ _
      | exact LeO.none _
      | refine LeO.ite ?_ ?_
      | refine LeO.bind ?_ (fun _ => ?_)
    · intro y0 y1 y2 y3 y4
      unfold driftnetlaw20_LexOne.j2
      repeat' first
      | (with_reducible exact ih0 _ _ _)
      | (with_reducible exact ih1 _ _ _ _)
      | (with_reducible exact ih2 _ _ _ _ _)
      | (with_reducible exact driftnetlaw20_awake.mono _)
      | (with_reducible exact lex_Tokens.mono _ _)
      | (with_reducible exact LeO.refl _)
      | (with_reducible exact LeO.none _)
      | (with_reducible refine LeO.ite ?_ ?_)
      | (with_reducible refine LeO.bind ?_ (fun _ => ?_))
      | exact ih0 _ _ _
      | exact ih1 _ _ _ _
      | exact ih2 _ _ _ _ _
      | exact driftnetlaw20_awake.mono _
      | exact lex_Tokens.mono _ _
      | exact LeO.none _
      | refine LeO.ite ?_ ?_
      | refine LeO.bind ?_ (fun _ => ?_)
theorem driftnetlaw20_LexOne.mono : ∀ a0 k, LeO (driftnetlaw20_LexOne.f k a0) (driftnetlaw20_LexOne.f (k + 1) a0) := by
  intro a0 k
  obtain ⟨ih0, ih1, ih2⟩ := driftnetlaw20_LexOne.mono_l k
  unfold driftnetlaw20_LexOne.f
  repeat' first
      | (with_reducible exact ih0 _ _ _)
      | (with_reducible exact ih1 _ _ _ _)
      | (with_reducible exact ih2 _ _ _ _ _)
      | (with_reducible exact driftnetlaw20_awake.mono _)
      | (with_reducible exact lex_Tokens.mono _ _)
      | (with_reducible exact LeO.refl _)
      | (with_reducible exact LeO.none _)
      | (with_reducible refine LeO.ite ?_ ?_)
      | (with_reducible refine LeO.bind ?_ (fun _ => ?_))
      | exact ih0 _ _ _
      | exact ih1 _ _ _ _
      | exact ih2 _ _ _ _ _
      | exact driftnetlaw20_awake.mono _
      | exact lex_Tokens.mono _ _
      | exact LeO.none _
      | refine LeO.ite ?_ ?_
      | refine LeO.bind ?_ (fun _ => ?_)
set_option maxHeartbeats 8000000 in
set_option maxRecDepth 100000 in
theorem driftnetlaw20_LexOne.calls (k : Nat) (a0 : ByteArray) (r : Bool) (w : World) (hG : Aside0 (G w)) (h : driftnetlaw20_LexOne.f k a0 = some r) :
    Calls Tryz.prog 4 #[.string a0] w fun e w' => e = .returned (.bool r) ∧ Below w.heap.size w w' := by
  have HB := Aside0.mk (Below.refl w.heap.size w)
  have H : (if 0 ≤ (mn (a0.size : Int) 200) then (if (mn (a0.size : Int) 200) ≤ (a0.size : Int) then ((lex_Tokens.f k (a0.extract 0 ((mn (a0.size : Int) 200) : Int).toNat)).bind fun bt1 => (if bt1.2.2 = 0 then (driftnetlaw20_LexOne.l0 k (a0.extract 0 ((mn (a0.size : Int) 200) : Int).toNat) bt1.1 0) else ((driftnetlaw20_awake.f k).bind fun t6 => (some t6)))) else (none)) else (none)) = some r := h
  clear h
  obtain ⟨ji2, hji2⟩ : ∃ j_ : Int, (mn (a0.size : Int) 200) = j_ := ⟨_, rfl⟩
  replace H : (if 0 ≤ (ji2) then (if (ji2) ≤ (a0.size : Int) then ((lex_Tokens.f k (a0.extract 0 ((ji2) : Int).toNat)).bind fun bt1 => (if bt1.2.2 = 0 then (driftnetlaw20_LexOne.l0 k (a0.extract 0 ((ji2) : Int).toNat) bt1.1 0) else ((driftnetlaw20_awake.f k).bind fun t6 => (some t6)))) else (none)) else (none)) = some r := by first | (rw [hji2] at H; exact H) | (simp only [hji2] at H ⊢; exact H)
  (try (have hji2h : ji2 ≤ 200 := by (rw [← hji2]; unfold mn; (repeat' split) <;> omega)))
  (try (have hji2g : ji2 ≤ 64 := by omega))
  (try (have hji2l : 0 ≤ ji2 := by (rw [← hji2]; unfold mn; (repeat' split) <;> omega)))
  (try (have hji2m : 0 ≤ ji2 := by omega))
  have hji2_ : (if 200 < (a0.size : Int) then 200 else (a0.size : Int)) = ji2 := hji2
  by_cases c3 : 0 ≤ (ji2)
  · rw [if_pos c3] at H
    have c3b0 := eq_true c3
    have c3b1 : decide (0 ≤ (ji2)) = true := decide_eq_true c3
    clear c3
    by_cases c4 : (ji2) ≤ (a0.size : Int)
    · rw [if_pos c4] at H
      have c4b0 := eq_true c4
      have c4b1 : decide ((ji2) ≤ (a0.size : Int)) = true := decide_eq_true c4
      clear c4
      replace H := Option.bind_eq_some_iff.mp H
      obtain ⟨⟨t1, t2, t3⟩, A50, H⟩ := H
      replace H : (if t3 = 0 then (driftnetlaw20_LexOne.l0 k (a0.extract 0 ((ji2) : Int).toNat) t1 0) else ((driftnetlaw20_awake.f k).bind fun t6 => (some t6))) = some r := H
      have A5 := Aside0.mk A50
      clear A50
      by_cases c6 : t3 = 0
      · rw [if_pos c6] at H
        have c6b0 : (t3 == 0) = true := beq_iff_eq.mpr c6
        have c6b1 : (t3 != 0) = false := bne_eq_false_iff_eq.mpr c6
        clear c6
        have H' := Aside0.mk H
        clear H
        go_enter Tryz.func4, Tryz.ntmps4
        go_wp2_with (first | (go_at_call 8; (with_reducible refine (lex_Tokens.calls k (a0.extract 0 ((ji2) : Int).toNat) t1 t2 t3 _ ?side1 A5.out).mono ?_); (case side1 => exact G.at hG.out (lc HB.out)); rintro e w7 ⟨v4, rfl, ho0, hb⟩; have n0_ := Aside0.mk (Kd.R_lower ho0 (below_size (lc HB.out))); have n1_ := Aside0.mk (below_step (lc HB.out) hb); clear HB; have HO5 := n0_; have HB := n1_; clear n0_ n1_; (try clear hb); (try clear hb2); (try clear hk); (try clear hi); (try clear ho0)))
        repeat (go_quiet (first | (go_at_call 8; (with_reducible refine (lex_Tokens.calls k (a0.extract 0 ((ji2) : Int).toNat) t1 t2 t3 _ ?side1 A5.out).mono ?_); (case side1 => exact G.at hG.out (lc HB.out)); rintro e w7 ⟨v4, rfl, ho0, hb⟩; have n0_ := Aside0.mk (Kd.R_lower ho0 (below_size (lc HB.out))); have n1_ := Aside0.mk (below_step (lc HB.out) hb); clear HB; have HO5 := n0_; have HB := n1_; clear n0_ n1_; (try clear hb); (try clear hb2); (try clear hk); (try clear hi); (try clear ho0))); try go_wp2_with (first | (go_at_call 8; (with_reducible refine (lex_Tokens.calls k (a0.extract 0 ((ji2) : Int).toNat) t1 t2 t3 _ ?side1 A5.out).mono ?_); (case side1 => exact G.at hG.out (lc HB.out)); rintro e w7 ⟨v4, rfl, ho0, hb⟩; have n0_ := Aside0.mk (Kd.R_lower ho0 (below_size (lc HB.out))); have n1_ := Aside0.mk (below_step (lc HB.out) hb); clear HB; have HO5 := n0_; have HB := n1_; clear n0_ n1_; (try clear hb); (try clear hb2); (try clear hk); (try clear hi); (try clear ho0))))
        go_loopg [6] k (fun kq v6 w' => ∃ (x6_1 : Int), v6 = .int .i64 x6_1 ∧ Aside0 (driftnetlaw20_LexOne.l0 kq (a0.extract 0 ((ji2) : Int).toNat) t1 x6_1 = some r) ∧ Aside0 (kq ≤ k) ∧ Aside0 (Kd.R k32 32 w' w.heap.size (fun _ => True) v4 t1) ∧ Aside0 (Below w.heap.size w w'))
        case atStart => exact ⟨(0), (by first | rfl | (simp; done) | (simp [*]; done)), H', ⟨Nat.le_refl _⟩, ⟨by (with_reducible repeat (first | apply Kd.R_alloc | apply Kd.R_drewN | apply Kd.R_drew)); exact HO5.out⟩, ⟨by exact lc HB.out⟩⟩
        case round =>
          clear H'
          try clear p2
          try clear c3
          try clear c3b0
          try clear c3b1
          try clear c4
          try clear c4b0
          try clear c4b1
          try clear c6
          try clear c6b0
          try clear c6b1
          obtain ⟨x6_1, rfl, HA, HK1, HO_3, HB⟩ := hrel
          cases gk with
          | zero => exact absurd HA.out (by simp [driftnetlaw20_LexOne.l0])
          | succ k1 =>
            have H := HA.out
            clear HA
            simp only [driftnetlaw20_LexOne.l0] at H
            by_cases c8 : x6_1 < (t1.length : Int)
            · rw [if_pos c8] at H
              have c8b0 : decide (x6_1 < (t1.length : Int)) = true := decide_eq_true c8
              clear c8
              have HC9 := Aside0.mk H
              clear H
              obtain ⟨Ao10, co10, eo10⟩ := Kd.R_slice HO_3.out
              subst eo10
              go_upto_if 37 with (fail)
              repeat (go_quiet (fail); go_upto_if 37 with (fail))
              go_cut [7] (fun v7 wc => ∃ (kq : Nat) (x7_8 : Int), v7 = .int .i64 x7_8 ∧ Aside0 (driftnetlaw20_LexOne.j1 kq (a0.extract 0 ((ji2) : Int).toNat) t1 x6_1 x7_8 = some r) ∧ Aside0 (kq ≤ k1) ∧ Aside0 (Kd.R k32 32 wc w.heap.size (fun _ => True) (.slice Ao10 t1.length co10) t1) ∧ Aside0 (Below w.heap.size w wc))
              case first =>
                have H := HC9.out
                clear HC9
                by_cases c11 : (wrap64 (x6_1 + 1)) < (t1.length : Int)
                · rw [if_pos c11] at H
                  have c11b0 : decide ((wrap64 (x6_1 + 1)) < (t1.length : Int)) = true := decide_eq_true c11
                  clear c11
                  (first | rw [c11b0] | (simp only [i64_w, i32_w]; rw [c11b0]) | skip)
                  obtain ⟨ji12, hji12⟩ : ∃ j_ : Int, (wrap64 (x6_1 + 1)) = j_ := ⟨_, rfl⟩
                  replace H : (if 0 ≤ (ji12) then (driftnetlaw20_LexOne.j1 k1 (a0.extract 0 ((ji2) : Int).toNat) t1 x6_1 ((rd_T32 t1 (ji12)).f2)) else (none)) = some r := by first | (rw [hji12] at H; exact H) | (simp only [hji12] at H ⊢; exact H)
                  (try rw [hji12] at c11b0)
                  have hji12w : (IntKind.i64.wrap (x6_1 + 1)) = ji12 := (i64_w _).trans hji12
                  by_cases c13 : 0 ≤ (ji12)
                  · rw [if_pos c13] at H
                    have c13b0 : decide (0 ≤ (ji12)) = true := decide_eq_true c13
                    clear c13
                    have H' := Aside0.mk H
                    clear H
                    have p8 : 0 ≤ ((ji12) : Int) := of_decide_eq_true (by first | (with_reducible assumption) | assumption)
                    have q8 : (ji12) < (t1.length : Int) := of_decide_eq_true (by first | (with_reducible assumption) | assumption)
                    obtain ⟨ad8, e8, hx8_0, hx8_1, hx8_2⟩ := at_T32 (Kd.R_reads' HO_3.out).2.2 (ji12) p8 q8
                    cases e8
                    replace p8 := eq_true p8
                    replace q8 := eq_true q8
                    go_wp2
                    repeat (go_quiet (fail); try go_wp2)
                    go_meet
                    case rel => exact ⟨_, ((rd_T32 t1 (ji12)).f2), (by first | rfl | (simp; done) | (simp only [← hji12] <;> (first | rfl | simp)) | (simp [*]; done)), H', ⟨by have := HK1.out; first | omega | exact Nat.le_refl _⟩, ⟨by (with_reducible repeat (first | apply Kd.R_alloc | apply Kd.R_drewN | apply Kd.R_drew)); exact HO_3.out⟩, ⟨by exact lc HB.out⟩⟩
                  · rw [if_neg c13] at H
                    exact absurd H (by simp)
                · rw [if_neg c11] at H
                  have c11b0 : decide ((wrap64 (x6_1 + 1)) < (t1.length : Int)) = false := decide_eq_false c11
                  clear c11
                  (first | rw [c11b0] | (simp only [i64_w, i32_w]; rw [c11b0]) | skip)
                  have H' := Aside0.mk H
                  clear H
                  go_wp2
                  repeat (go_quiet (fail); try go_wp2)
                  go_meet
                  case rel => exact ⟨_, (((a0.extract 0 ((ji2) : Int).toNat).size : Int)), (by first | rfl | (simp; done) | (simp only [← hji2] <;> (first | rfl | simp)) | (simp [*]; done)), H', ⟨by have := HK1.out; first | omega | exact Nat.le_refl _⟩, ⟨by (with_reducible repeat (first | apply Kd.R_alloc | apply Kd.R_drewN | apply Kd.R_drew)); exact HO_3.out⟩, ⟨by exact lc HB.out⟩⟩
              case rest =>
                clear HC9
                try clear c1
                try clear p2
                try clear c3
                try clear c3b0
                try clear c3b1
                try clear c4
                try clear c4b0
                try clear c4b1
                try clear c6
                try clear c6b0
                try clear c6b1
                try clear p6
                try clear c8
                try clear c8b0
                try clear p8
                try clear q8
                try clear hx8
                try clear c11
                try clear c11b0
                try clear c13
                try clear c13b0
                try clear hx8_0
                try clear hx8_1
                try clear hx8_2
                try clear p2
                try clear p8
                try clear q8
                obtain ⟨kq, x7_8, rfl, HA, HJ8, HO_3, HB⟩ := hcut
                cases kq with
                | zero => exact absurd HA.out (by simp [driftnetlaw20_LexOne.j1])
                | succ kj8 =>
                  have H := HA.out
                  clear HA
                  simp only [driftnetlaw20_LexOne.j1] at H
                  have HC14 := Aside0.mk H
                  clear H
                  go_upto_region 11 with (fail)
                  repeat (go_quiet (fail); go_upto_region 11 with (fail))
                  go_cut [64] (fun v64 wc => ∃ (kq : Nat) (x64_13 : Bool), v64 = .bool x64_13 ∧ Aside0 (driftnetlaw20_LexOne.j2 kq (a0.extract 0 ((ji2) : Int).toNat) t1 x6_1 x7_8 x64_13 = some r) ∧ Aside0 (kq ≤ kj8) ∧ Aside0 (Kd.R k32 32 wc w.heap.size (fun _ => True) (.slice Ao10 t1.length co10) t1) ∧ Aside0 (Below w.heap.size w wc))
                  case first =>
                    have H := HC14.out
                    clear HC14
                    by_cases c15 : 0 ≤ x6_1
                    · rw [if_pos c15] at H
                      have c15b0 : decide (0 ≤ x6_1) = true := decide_eq_true c15
                      clear c15
                      (first | rw [c15b0] | (simp only [i64_w, i32_w]; rw [c15b0]) | skip)
                      by_cases c16 : x6_1 < (t1.length : Int)
                      · rw [if_pos c16] at H
                        have c16b0 : decide (x6_1 < (t1.length : Int)) = true := decide_eq_true c16
                        clear c16
                        by_cases c17 : ((rd_T32 t1 x6_1).f2) < 0
                        · rw [if_pos c17] at H
                          have c17b0 : decide (((rd_T32 t1 x6_1).f2) < 0) = true := decide_eq_true c17
                          clear c17
                          have H' := Aside0.mk H
                          clear H
                          have p9 : 0 ≤ (x6_1 : Int) := of_decide_eq_true (by first | (with_reducible assumption) | assumption)
                          have q9 : x6_1 < (t1.length : Int) := of_decide_eq_true (by first | (with_reducible assumption) | assumption)
                          obtain ⟨ad9, e9, hx9_0, hx9_1, hx9_2⟩ := at_T32 (Kd.R_reads' HO_3.out).2.2 x6_1 p9 q9
                          cases e9
                          replace p9 := eq_true p9
                          replace q9 := eq_true q9
                          go_wp2
                          repeat (go_quiet (fail); try go_wp2)
                          go_meet
                          case rel => exact ⟨_, (true), (by first | rfl | (simp; done) | (simp [*]; done)), H', ⟨by have := HK1.out; have := HJ8.out; first | omega | exact Nat.le_refl _⟩, ⟨by (with_reducible repeat (first | apply Kd.R_alloc | apply Kd.R_drewN | apply Kd.R_drew)); exact HO_3.out⟩, ⟨by exact lc HB.out⟩⟩
                        · rw [if_neg c17] at H
                          have c17b0 : decide (((rd_T32 t1 x6_1).f2) < 0) = false := decide_eq_false c17
                          clear c17
                          by_cases c18 : ((rd_T32 t1 x6_1).f2) > x7_8
                          · rw [if_pos c18] at H
                            have c18b0 : decide (x7_8 < ((rd_T32 t1 x6_1).f2)) = true := decide_eq_true c18
                            clear c18
                            have H' := Aside0.mk H
                            clear H
                            have p9 : 0 ≤ (x6_1 : Int) := of_decide_eq_true (by first | (with_reducible assumption) | assumption)
                            have q9 : x6_1 < (t1.length : Int) := of_decide_eq_true (by first | (with_reducible assumption) | assumption)
                            obtain ⟨ad9, e9, hx9_0, hx9_1, hx9_2⟩ := at_T32 (Kd.R_reads' HO_3.out).2.2 x6_1 p9 q9
                            cases e9
                            replace p9 := eq_true p9
                            replace q9 := eq_true q9
                            have p10 : 0 ≤ (x6_1 : Int) := of_decide_eq_true (by first | (with_reducible assumption) | assumption)
                            have q10 : x6_1 < (t1.length : Int) := of_decide_eq_true (by first | (with_reducible assumption) | assumption)
                            obtain ⟨ad10, e10, hx10_0, hx10_1, hx10_2⟩ := at_T32 (Kd.R_reads' HO_3.out).2.2 x6_1 p10 q10
                            obtain rfl : ad9 = ad10 := (by injection e10)
                            replace p10 := eq_true p10
                            replace q10 := eq_true q10
                            go_wp2
                            repeat (go_quiet (fail); try go_wp2)
                            go_meet
                            case rel => exact ⟨_, (true), (by first | rfl | (simp; done) | (simp [*]; done)), H', ⟨by have := HK1.out; have := HJ8.out; first | omega | exact Nat.le_refl _⟩, ⟨by (with_reducible repeat (first | apply Kd.R_alloc | apply Kd.R_drewN | apply Kd.R_drew)); exact HO_3.out⟩, ⟨by exact lc HB.out⟩⟩
                          · rw [if_neg c18] at H
                            have c18b0 : decide (x7_8 < ((rd_T32 t1 x6_1).f2)) = false := decide_eq_false c18
                            clear c18
                            have H' := Aside0.mk H
                            clear H
                            have p9 : 0 ≤ (x6_1 : Int) := of_decide_eq_true (by first | (with_reducible assumption) | assumption)
                            have q9 : x6_1 < (t1.length : Int) := of_decide_eq_true (by first | (with_reducible assumption) | assumption)
                            obtain ⟨ad9, e9, hx9_0, hx9_1, hx9_2⟩ := at_T32 (Kd.R_reads' HO_3.out).2.2 x6_1 p9 q9
                            cases e9
                            replace p9 := eq_true p9
                            replace q9 := eq_true q9
                            have p10 : 0 ≤ (x6_1 : Int) := of_decide_eq_true (by first | (with_reducible assumption) | assumption)
                            have q10 : x6_1 < (t1.length : Int) := of_decide_eq_true (by first | (with_reducible assumption) | assumption)
                            obtain ⟨ad10, e10, hx10_0, hx10_1, hx10_2⟩ := at_T32 (Kd.R_reads' HO_3.out).2.2 x6_1 p10 q10
                            obtain rfl : ad9 = ad10 := (by injection e10)
                            replace p10 := eq_true p10
                            replace q10 := eq_true q10
                            go_wp2
                            repeat (go_quiet (fail); try go_wp2)
                            go_meet
                            case rel => exact ⟨_, (decide (x7_8 > ((a0.extract 0 ((ji2) : Int).toNat).size : Int))), (by first | rfl | (simp; done) | (simp only [← hji2] <;> (first | rfl | simp)) | (simp [*]; done)), H', ⟨by have := HK1.out; have := HJ8.out; first | omega | exact Nat.le_refl _⟩, ⟨by (with_reducible repeat (first | apply Kd.R_alloc | apply Kd.R_drewN | apply Kd.R_drew)); exact HO_3.out⟩, ⟨by exact lc HB.out⟩⟩
                      · rw [if_neg c16] at H
                        exact absurd H (by simp)
                    · rw [if_neg c15] at H
                      exact absurd H (by simp)
                  case rest =>
                    clear HC14
                    try clear c1
                    try clear p1
                    try clear q1
                    try clear hx1
                    try clear p2
                    try clear c3
                    try clear c3b0
                    try clear c3b1
                    try clear c4
                    try clear c4b0
                    try clear c4b1
                    try clear c6
                    try clear c6b0
                    try clear c6b1
                    try clear p6
                    try clear c8
                    try clear c8b0
                    try clear p8
                    try clear q8
                    try clear hx8
                    try clear p9
                    try clear q9
                    try clear hx9
                    try clear p10
                    try clear q10
                    try clear hx10
                    try clear c11
                    try clear c11b0
                    try clear c13
                    try clear c13b0
                    try clear c15
                    try clear c15b0
                    try clear c16
                    try clear c16b0
                    try clear c17
                    try clear c17b0
                    try clear c18
                    try clear c18b0
                    try clear hx10_0
                    try clear hx10_1
                    try clear hx10_2
                    try clear hx8_0
                    try clear hx8_1
                    try clear hx8_2
                    try clear hx9_0
                    try clear hx9_1
                    try clear hx9_2
                    try clear p10
                    try clear p2
                    try clear p6
                    try clear p8
                    try clear p9
                    try clear q10
                    try clear q8
                    try clear q9
                    obtain ⟨kq, x64_13, rfl, HA, HJ13, HO_3, HB⟩ := hcut
                    cases kq with
                    | zero => exact absurd HA.out (by simp [driftnetlaw20_LexOne.j2])
                    | succ kj13 =>
                      have H := HA.out
                      clear HA
                      simp only [driftnetlaw20_LexOne.j2] at H
                      by_cases c19 : x64_13 = true
                      · subst c19
                        have H1 : (some false) = some r := by rw [if_pos rfl] at H; exact H
                        clear H
                        have H := H1
                        clear H1
                        obtain rfl := Option.some.inj H
                        go_wp2
                        repeat (go_quiet (fail); try go_wp2)
                        go_ret
                        exact ⟨by first | rfl | (simp [errW_none, errW_some] <;> rfl) | (simp only [← hji2]; first | rfl | (simp [errW_none, errW_some] <;> rfl)) | (simp [*, errW_none, errW_some] <;> rfl), by exact lc HB.out⟩
                      · replace c19 := Bool.eq_false_iff.mpr c19
                        subst c19
                        have H1 : (if 0 ≤ x6_1 then (if x6_1 < (t1.length : Int) then (if 0 ≤ ((rd_T32 t1 x6_1).f2) then (if ((rd_T32 t1 x6_1).f2) ≤ x7_8 then (if x7_8 ≤ ((a0.extract 0 ((ji2) : Int).toNat).size : Int) then ((lex_Tokens.f kj13 ((a0.extract 0 ((ji2) : Int).toNat).extract (((rd_T32 t1 x6_1).f2) : Int).toNat (x7_8 : Int).toNat)).bind fun bt12 => (if bt12.2.2 = 0 then (if (bt12.1.length : Int) = 1 then (if 0 < (bt12.1.length : Int) then (if ((rd_T32 bt12.1 0).f0) = ((rd_T32 t1 x6_1).f0) then (if ((rd_T32 bt12.1 0).f1).toList = ((rd_T32 t1 x6_1).f1).toList then (if ((rd_T32 bt12.1 0).f2) = 0 then (driftnetlaw20_LexOne.l0 kj13 (a0.extract 0 ((ji2) : Int).toNat) t1 (wrap64 (x6_1 + 1))) else (some false)) else (some false)) else (some false)) else (none)) else (some false)) else (some false))) else (none)) else (none)) else (none)) else (none)) else (none)) = some r := by rw [if_neg (show ¬ (false = true) by decide)] at H; exact H
                        clear H
                        have H := H1
                        clear H1
                        by_cases c20 : 0 ≤ x6_1
                        · rw [if_pos c20] at H
                          have c20b0 : decide (0 ≤ x6_1) = true := decide_eq_true c20
                          clear c20
                          by_cases c21 : x6_1 < (t1.length : Int)
                          · rw [if_pos c21] at H
                            have c21b0 : decide (x6_1 < (t1.length : Int)) = true := decide_eq_true c21
                            clear c21
                            by_cases c22 : 0 ≤ ((rd_T32 t1 x6_1).f2)
                            · rw [if_pos c22] at H
                              have c22b0 := eq_true c22
                              have c22b1 : decide (0 ≤ ((rd_T32 t1 x6_1).f2)) = true := decide_eq_true c22
                              clear c22
                              by_cases c23 : ((rd_T32 t1 x6_1).f2) ≤ x7_8
                              · rw [if_pos c23] at H
                                have c23b0 := eq_true c23
                                have c23b1 : decide (((rd_T32 t1 x6_1).f2) ≤ x7_8) = true := decide_eq_true c23
                                clear c23
                                by_cases c24 : x7_8 ≤ ((a0.extract 0 ((ji2) : Int).toNat).size : Int)
                                · rw [if_pos c24] at H
                                  have c24b0 := eq_true c24
                                  have c24b1 : decide (x7_8 ≤ ((a0.extract 0 ((ji2) : Int).toNat).size : Int)) = true := decide_eq_true c24
                                  have c24mz_0 : (x7_8 ≤ ((min (ji2).toNat a0.size : Nat) : Int)) = True := by (have z_ := c24; rw [ByteArray.size_extract, Nat.sub_zero] at z_; exact eq_true z_)
                                  have c24mz_1 : decide (x7_8 ≤ ((min (ji2).toNat a0.size : Nat) : Int)) = true := decide_eq_true (of_eq_true c24mz_0)
                                  clear c24
                                  replace H := Option.bind_eq_some_iff.mp H
                                  obtain ⟨⟨t12, t13, t14⟩, A250, H⟩ := H
                                  replace H : (if t14 = 0 then (if (t12.length : Int) = 1 then (if 0 < (t12.length : Int) then (if ((rd_T32 t12 0).f0) = ((rd_T32 t1 x6_1).f0) then (if ((rd_T32 t12 0).f1).toList = ((rd_T32 t1 x6_1).f1).toList then (if ((rd_T32 t12 0).f2) = 0 then (driftnetlaw20_LexOne.l0 kj13 (a0.extract 0 ((ji2) : Int).toNat) t1 (wrap64 (x6_1 + 1))) else (some false)) else (some false)) else (some false)) else (none)) else (some false)) else (some false)) = some r := H
                                  have A25 := Aside0.mk A250
                                  clear A250
                                  by_cases c26 : t14 = 0
                                  · rw [if_pos c26] at H
                                    have c26b0 : (t14 == 0) = true := beq_iff_eq.mpr c26
                                    have c26b1 : (t14 != 0) = false := bne_eq_false_iff_eq.mpr c26
                                    clear c26
                                    by_cases c27 : (t12.length : Int) = 1
                                    · rw [if_pos c27] at H
                                      have c27b0 : ((t12.length : Int) == 1) = true := beq_iff_eq.mpr c27
                                      have c27b1 : ((t12.length : Int) != 1) = false := bne_eq_false_iff_eq.mpr c27
                                      clear c27
                                      by_cases c28 : 0 < (t12.length : Int)
                                      · rw [if_pos c28] at H
                                        have c28b0 : decide (0 < (t12.length : Int)) = true := decide_eq_true c28
                                        have c28b1 : decide (0 < t12.length) = true := decide_eq_true (by omega)
                                        clear c28
                                        by_cases c29 : ((rd_T32 t12 0).f0) = ((rd_T32 t1 x6_1).f0)
                                        · rw [if_pos c29] at H
                                          have c29b0 : (((rd_T32 t12 0).f0) == ((rd_T32 t1 x6_1).f0)) = true := beq_iff_eq.mpr c29
                                          have c29b1 : (((rd_T32 t12 0).f0) != ((rd_T32 t1 x6_1).f0)) = false := bne_eq_false_iff_eq.mpr c29
                                          clear c29
                                          by_cases c30 : ((rd_T32 t12 0).f1).toList = ((rd_T32 t1 x6_1).f1).toList
                                          · rw [if_pos c30] at H
                                            have c30b0 : (((rd_T32 t12 0).f1).toList == ((rd_T32 t1 x6_1).f1).toList) = true := beq_iff_eq.mpr c30
                                            have c30b1 : (((rd_T32 t12 0).f1).toList != ((rd_T32 t1 x6_1).f1).toList) = false := bne_eq_false_iff_eq.mpr c30
                                            clear c30
                                            by_cases c31 : ((rd_T32 t12 0).f2) = 0
                                            · rw [if_pos c31] at H
                                              have c31b0 : (((rd_T32 t12 0).f2) == 0) = true := beq_iff_eq.mpr c31
                                              have c31b1 : (((rd_T32 t12 0).f2) != 0) = false := bne_eq_false_iff_eq.mpr c31
                                              clear c31
                                              have H' := Aside0.mk H
                                              clear H
                                              have p11 : 0 ≤ (x6_1 : Int) := of_decide_eq_true (by first | (with_reducible assumption) | assumption)
                                              have q11 : x6_1 < (t1.length : Int) := of_decide_eq_true (by first | (with_reducible assumption) | assumption)
                                              obtain ⟨ad11, e11, hx11_0, hx11_1, hx11_2⟩ := at_T32 (Kd.R_reads' HO_3.out).2.2 x6_1 p11 q11
                                              cases e11
                                              replace p11 := eq_true p11
                                              replace q11 := eq_true q11
                                              go_wp2_with (first | (go_at_call 8; (with_reducible refine (lex_Tokens.calls kj13 ((a0.extract 0 ((ji2) : Int).toNat).extract (((rd_T32 t1 x6_1).f2) : Int).toNat (x7_8 : Int).toNat) t12 t13 t14 _ ?side1 A25.out).mono ?_); (case side1 => exact G.at hG.out (lc HB.out)); rintro e w32 ⟨v15, rfl, ho0, hb⟩; have n0_ := Aside0.mk (Kd.R_elder' (rc HO_3.out) (Kd.R_base ho0) hb); have n1_ := Aside0.mk (Kd.R_lower (Kd.R_new' ho0 (Kd.R_lt (rc HO_3.out))) (below_size (lc HB.out))); have n2_ := Aside0.mk (below_step (lc HB.out) hb); clear HO_3; clear HB; have HO_3 := n0_; have HO16 := n1_; have HB := n2_; clear n0_ n1_ n2_; (try clear hb); (try clear hb2); (try clear hk); (try clear hi); (try clear ho0); obtain ⟨Ao33, co33, eo33⟩ := Kd.R_slice HO16.out; subst eo33; have p17 : 0 ≤ (0 : Int) := (by omega); have q17 : 0 < (t12.length : Int) := of_decide_eq_true (by first | (with_reducible assumption) | assumption); obtain ⟨ad17, e17, hx17_0, hx17_1, hx17_2⟩ := at_T32 (Kd.R_reads' HO16.out).2.2 0 p17 q17; cases e17; have qi17 : (0 < t12.length) = True := eq_true (by omega); (try rw [show ((0 : Int)).toNat = 0 from rfl] at hx17_0); (try rw [show 0 * 3 = 0 from rfl] at hx17_0); (try rw [Addr.add_zero'] at hx17_0); (try rw [show ((0 : Int)).toNat = 0 from rfl] at hx17_1); (try rw [show 0 * 3 = 0 from rfl] at hx17_1); (try rw [Addr.add_zero'] at hx17_1); (try rw [show ((0 : Int)).toNat = 0 from rfl] at hx17_2); (try rw [show 0 * 3 = 0 from rfl] at hx17_2); (try rw [Addr.add_zero'] at hx17_2); replace p17 := eq_true p17; replace q17 := eq_true q17; have p18 : 0 ≤ (x6_1 : Int) := of_decide_eq_true (by first | (with_reducible assumption) | assumption); have q18 : x6_1 < (t1.length : Int) := of_decide_eq_true (by first | (with_reducible assumption) | assumption); obtain ⟨ad18, e18, hx18_0, hx18_1, hx18_2⟩ := at_T32 (Kd.R_reads' HO_3.out).2.2 x6_1 p18 q18; obtain rfl : ad11 = ad18 := (by injection e18); replace p18 := eq_true p18; replace q18 := eq_true q18; have p19 : 0 ≤ (0 : Int) := (by omega); have q19 : 0 < (t12.length : Int) := of_decide_eq_true (by first | (with_reducible assumption) | assumption); obtain ⟨ad19, e19, hx19_0, hx19_1, hx19_2⟩ := at_T32 (Kd.R_reads' HO16.out).2.2 0 p19 q19; obtain rfl : ad17 = ad19 := (by injection e19); have qi19 : (0 < t12.length) = True := eq_true (by omega); (try rw [show ((0 : Int)).toNat = 0 from rfl] at hx19_0); (try rw [show 0 * 3 = 0 from rfl] at hx19_0); (try rw [Addr.add_zero'] at hx19_0); (try rw [show ((0 : Int)).toNat = 0 from rfl] at hx19_1); (try rw [show 0 * 3 = 0 from rfl] at hx19_1); (try rw [Addr.add_zero'] at hx19_1); (try rw [show ((0 : Int)).toNat = 0 from rfl] at hx19_2); (try rw [show 0 * 3 = 0 from rfl] at hx19_2); (try rw [Addr.add_zero'] at hx19_2); replace p19 := eq_true p19; replace q19 := eq_true q19; have p20 : 0 ≤ (x6_1 : Int) := of_decide_eq_true (by first | (with_reducible assumption) | assumption); have q20 : x6_1 < (t1.length : Int) := of_decide_eq_true (by first | (with_reducible assumption) | assumption); obtain ⟨ad20, e20, hx20_0, hx20_1, hx20_2⟩ := at_T32 (Kd.R_reads' HO_3.out).2.2 x6_1 p20 q20; obtain rfl : ad11 = ad20 := (by injection e20); replace p20 := eq_true p20; replace q20 := eq_true q20; have p21 : 0 ≤ (0 : Int) := (by omega); have q21 : 0 < (t12.length : Int) := of_decide_eq_true (by first | (with_reducible assumption) | assumption); obtain ⟨ad21, e21, hx21_0, hx21_1, hx21_2⟩ := at_T32 (Kd.R_reads' HO16.out).2.2 0 p21 q21; obtain rfl : ad17 = ad21 := (by injection e21); have qi21 : (0 < t12.length) = True := eq_true (by omega); (try rw [show ((0 : Int)).toNat = 0 from rfl] at hx21_0); (try rw [show 0 * 3 = 0 from rfl] at hx21_0); (try rw [Addr.add_zero'] at hx21_0); (try rw [show ((0 : Int)).toNat = 0 from rfl] at hx21_1); (try rw [show 0 * 3 = 0 from rfl] at hx21_1); (try rw [Addr.add_zero'] at hx21_1); (try rw [show ((0 : Int)).toNat = 0 from rfl] at hx21_2); (try rw [show 0 * 3 = 0 from rfl] at hx21_2); (try rw [Addr.add_zero'] at hx21_2); replace p21 := eq_true p21; replace q21 := eq_true q21))
                                              repeat (go_quiet (first | (go_at_call 8; (with_reducible refine (lex_Tokens.calls kj13 ((a0.extract 0 ((ji2) : Int).toNat).extract (((rd_T32 t1 x6_1).f2) : Int).toNat (x7_8 : Int).toNat) t12 t13 t14 _ ?side1 A25.out).mono ?_); (case side1 => exact G.at hG.out (lc HB.out)); rintro e w32 ⟨v15, rfl, ho0, hb⟩; have n0_ := Aside0.mk (Kd.R_elder' (rc HO_3.out) (Kd.R_base ho0) hb); have n1_ := Aside0.mk (Kd.R_lower (Kd.R_new' ho0 (Kd.R_lt (rc HO_3.out))) (below_size (lc HB.out))); have n2_ := Aside0.mk (below_step (lc HB.out) hb); clear HO_3; clear HB; have HO_3 := n0_; have HO16 := n1_; have HB := n2_; clear n0_ n1_ n2_; (try clear hb); (try clear hb2); (try clear hk); (try clear hi); (try clear ho0); obtain ⟨Ao33, co33, eo33⟩ := Kd.R_slice HO16.out; subst eo33; have p17 : 0 ≤ (0 : Int) := (by omega); have q17 : 0 < (t12.length : Int) := of_decide_eq_true (by first | (with_reducible assumption) | assumption); obtain ⟨ad17, e17, hx17_0, hx17_1, hx17_2⟩ := at_T32 (Kd.R_reads' HO16.out).2.2 0 p17 q17; cases e17; have qi17 : (0 < t12.length) = True := eq_true (by omega); (try rw [show ((0 : Int)).toNat = 0 from rfl] at hx17_0); (try rw [show 0 * 3 = 0 from rfl] at hx17_0); (try rw [Addr.add_zero'] at hx17_0); (try rw [show ((0 : Int)).toNat = 0 from rfl] at hx17_1); (try rw [show 0 * 3 = 0 from rfl] at hx17_1); (try rw [Addr.add_zero'] at hx17_1); (try rw [show ((0 : Int)).toNat = 0 from rfl] at hx17_2); (try rw [show 0 * 3 = 0 from rfl] at hx17_2); (try rw [Addr.add_zero'] at hx17_2); replace p17 := eq_true p17; replace q17 := eq_true q17; have p18 : 0 ≤ (x6_1 : Int) := of_decide_eq_true (by first | (with_reducible assumption) | assumption); have q18 : x6_1 < (t1.length : Int) := of_decide_eq_true (by first | (with_reducible assumption) | assumption); obtain ⟨ad18, e18, hx18_0, hx18_1, hx18_2⟩ := at_T32 (Kd.R_reads' HO_3.out).2.2 x6_1 p18 q18; obtain rfl : ad11 = ad18 := (by injection e18); replace p18 := eq_true p18; replace q18 := eq_true q18; have p19 : 0 ≤ (0 : Int) := (by omega); have q19 : 0 < (t12.length : Int) := of_decide_eq_true (by first | (with_reducible assumption) | assumption); obtain ⟨ad19, e19, hx19_0, hx19_1, hx19_2⟩ := at_T32 (Kd.R_reads' HO16.out).2.2 0 p19 q19; obtain rfl : ad17 = ad19 := (by injection e19); have qi19 : (0 < t12.length) = True := eq_true (by omega); (try rw [show ((0 : Int)).toNat = 0 from rfl] at hx19_0); (try rw [show 0 * 3 = 0 from rfl] at hx19_0); (try rw [Addr.add_zero'] at hx19_0); (try rw [show ((0 : Int)).toNat = 0 from rfl] at hx19_1); (try rw [show 0 * 3 = 0 from rfl] at hx19_1); (try rw [Addr.add_zero'] at hx19_1); (try rw [show ((0 : Int)).toNat = 0 from rfl] at hx19_2); (try rw [show 0 * 3 = 0 from rfl] at hx19_2); (try rw [Addr.add_zero'] at hx19_2); replace p19 := eq_true p19; replace q19 := eq_true q19; have p20 : 0 ≤ (x6_1 : Int) := of_decide_eq_true (by first | (with_reducible assumption) | assumption); have q20 : x6_1 < (t1.length : Int) := of_decide_eq_true (by first | (with_reducible assumption) | assumption); obtain ⟨ad20, e20, hx20_0, hx20_1, hx20_2⟩ := at_T32 (Kd.R_reads' HO_3.out).2.2 x6_1 p20 q20; obtain rfl : ad11 = ad20 := (by injection e20); replace p20 := eq_true p20; replace q20 := eq_true q20; have p21 : 0 ≤ (0 : Int) := (by omega); have q21 : 0 < (t12.length : Int) := of_decide_eq_true (by first | (with_reducible assumption) | assumption); obtain ⟨ad21, e21, hx21_0, hx21_1, hx21_2⟩ := at_T32 (Kd.R_reads' HO16.out).2.2 0 p21 q21; obtain rfl : ad17 = ad21 := (by injection e21); have qi21 : (0 < t12.length) = True := eq_true (by omega); (try rw [show ((0 : Int)).toNat = 0 from rfl] at hx21_0); (try rw [show 0 * 3 = 0 from rfl] at hx21_0); (try rw [Addr.add_zero'] at hx21_0); (try rw [show ((0 : Int)).toNat = 0 from rfl] at hx21_1); (try rw [show 0 * 3 = 0 from rfl] at hx21_1); (try rw [Addr.add_zero'] at hx21_1); (try rw [show ((0 : Int)).toNat = 0 from rfl] at hx21_2); (try rw [show 0 * 3 = 0 from rfl] at hx21_2); (try rw [Addr.add_zero'] at hx21_2); replace p21 := eq_true p21; replace q21 := eq_true q21)); try go_wp2_with (first | (go_at_call 8; (with_reducible refine (lex_Tokens.calls kj13 ((a0.extract 0 ((ji2) : Int).toNat).extract (((rd_T32 t1 x6_1).f2) : Int).toNat (x7_8 : Int).toNat) t12 t13 t14 _ ?side1 A25.out).mono ?_); (case side1 => exact G.at hG.out (lc HB.out)); rintro e w32 ⟨v15, rfl, ho0, hb⟩; have n0_ := Aside0.mk (Kd.R_elder' (rc HO_3.out) (Kd.R_base ho0) hb); have n1_ := Aside0.mk (Kd.R_lower (Kd.R_new' ho0 (Kd.R_lt (rc HO_3.out))) (below_size (lc HB.out))); have n2_ := Aside0.mk (below_step (lc HB.out) hb); clear HO_3; clear HB; have HO_3 := n0_; have HO16 := n1_; have HB := n2_; clear n0_ n1_ n2_; (try clear hb); (try clear hb2); (try clear hk); (try clear hi); (try clear ho0); obtain ⟨Ao33, co33, eo33⟩ := Kd.R_slice HO16.out; subst eo33; have p17 : 0 ≤ (0 : Int) := (by omega); have q17 : 0 < (t12.length : Int) := of_decide_eq_true (by first | (with_reducible assumption) | assumption); obtain ⟨ad17, e17, hx17_0, hx17_1, hx17_2⟩ := at_T32 (Kd.R_reads' HO16.out).2.2 0 p17 q17; cases e17; have qi17 : (0 < t12.length) = True := eq_true (by omega); (try rw [show ((0 : Int)).toNat = 0 from rfl] at hx17_0); (try rw [show 0 * 3 = 0 from rfl] at hx17_0); (try rw [Addr.add_zero'] at hx17_0); (try rw [show ((0 : Int)).toNat = 0 from rfl] at hx17_1); (try rw [show 0 * 3 = 0 from rfl] at hx17_1); (try rw [Addr.add_zero'] at hx17_1); (try rw [show ((0 : Int)).toNat = 0 from rfl] at hx17_2); (try rw [show 0 * 3 = 0 from rfl] at hx17_2); (try rw [Addr.add_zero'] at hx17_2); replace p17 := eq_true p17; replace q17 := eq_true q17; have p18 : 0 ≤ (x6_1 : Int) := of_decide_eq_true (by first | (with_reducible assumption) | assumption); have q18 : x6_1 < (t1.length : Int) := of_decide_eq_true (by first | (with_reducible assumption) | assumption); obtain ⟨ad18, e18, hx18_0, hx18_1, hx18_2⟩ := at_T32 (Kd.R_reads' HO_3.out).2.2 x6_1 p18 q18; obtain rfl : ad11 = ad18 := (by injection e18); replace p18 := eq_true p18; replace q18 := eq_true q18; have p19 : 0 ≤ (0 : Int) := (by omega); have q19 : 0 < (t12.length : Int) := of_decide_eq_true (by first | (with_reducible assumption) | assumption); obtain ⟨ad19, e19, hx19_0, hx19_1, hx19_2⟩ := at_T32 (Kd.R_reads' HO16.out).2.2 0 p19 q19; obtain rfl : ad17 = ad19 := (by injection e19); have qi19 : (0 < t12.length) = True := eq_true (by omega); (try rw [show ((0 : Int)).toNat = 0 from rfl] at hx19_0); (try rw [show 0 * 3 = 0 from rfl] at hx19_0); (try rw [Addr.add_zero'] at hx19_0); (try rw [show ((0 : Int)).toNat = 0 from rfl] at hx19_1); (try rw [show 0 * 3 = 0 from rfl] at hx19_1); (try rw [Addr.add_zero'] at hx19_1); (try rw [show ((0 : Int)).toNat = 0 from rfl] at hx19_2); (try rw [show 0 * 3 = 0 from rfl] at hx19_2); (try rw [Addr.add_zero'] at hx19_2); replace p19 := eq_true p19; replace q19 := eq_true q19; have p20 : 0 ≤ (x6_1 : Int) := of_decide_eq_true (by first | (with_reducible assumption) | assumption); have q20 : x6_1 < (t1.length : Int) := of_decide_eq_true (by first | (with_reducible assumption) | assumption); obtain ⟨ad20, e20, hx20_0, hx20_1, hx20_2⟩ := at_T32 (Kd.R_reads' HO_3.out).2.2 x6_1 p20 q20; obtain rfl : ad11 = ad20 := (by injection e20); replace p20 := eq_true p20; replace q20 := eq_true q20; have p21 : 0 ≤ (0 : Int) := (by omega); have q21 : 0 < (t12.length : Int) := of_decide_eq_true (by first | (with_reducible assumption) | assumption); obtain ⟨ad21, e21, hx21_0, hx21_1, hx21_2⟩ := at_T32 (Kd.R_reads' HO16.out).2.2 0 p21 q21; obtain rfl : ad17 = ad21 := (by injection e21); have qi21 : (0 < t12.length) = True := eq_true (by omega); (try rw [show ((0 : Int)).toNat = 0 from rfl] at hx21_0); (try rw [show 0 * 3 = 0 from rfl] at hx21_0); (try rw [Addr.add_zero'] at hx21_0); (try rw [show ((0 : Int)).toNat = 0 from rfl] at hx21_1); (try rw [show 0 * 3 = 0 from rfl] at hx21_1); (try rw [Addr.add_zero'] at hx21_1); (try rw [show ((0 : Int)).toNat = 0 from rfl] at hx21_2); (try rw [show 0 * 3 = 0 from rfl] at hx21_2); (try rw [Addr.add_zero'] at hx21_2); replace p21 := eq_true p21; replace q21 := eq_true q21)))
                                              go_roundg kj13
                                              case measure => have := HK1.out; have := HJ8.out; have := HJ13.out; omega
                                              case rel => exact ⟨(wrap64 (x6_1 + 1)), (by first | rfl | (simp; done) | (simp [*]; done)), H', ⟨by have := HK1.out; have := HJ8.out; have := HJ13.out; omega⟩, ⟨by (with_reducible repeat (first | apply Kd.R_alloc | apply Kd.R_drewN | apply Kd.R_drew)); exact Kd.R_mono HO_3.out (fun _ hk => trivial)⟩, ⟨by exact lc HB.out⟩⟩
                                            · rw [if_neg c31] at H
                                              have c31b0 : (((rd_T32 t12 0).f2) == 0) = false := beq_eq_false_iff_ne.mpr c31
                                              have c31b1 : (((rd_T32 t12 0).f2) != 0) = true := bne_iff_ne.mpr c31
                                              obtain rfl := Option.some.inj H
                                              have p11 : 0 ≤ (x6_1 : Int) := of_decide_eq_true (by first | (with_reducible assumption) | assumption)
                                              have q11 : x6_1 < (t1.length : Int) := of_decide_eq_true (by first | (with_reducible assumption) | assumption)
                                              obtain ⟨ad11, e11, hx11_0, hx11_1, hx11_2⟩ := at_T32 (Kd.R_reads' HO_3.out).2.2 x6_1 p11 q11
                                              cases e11
                                              replace p11 := eq_true p11
                                              replace q11 := eq_true q11
                                              go_wp2_with (first | (go_at_call 8; (with_reducible refine (lex_Tokens.calls kj13 ((a0.extract 0 ((ji2) : Int).toNat).extract (((rd_T32 t1 x6_1).f2) : Int).toNat (x7_8 : Int).toNat) t12 t13 t14 _ ?side1 A25.out).mono ?_); (case side1 => exact G.at hG.out (lc HB.out)); rintro e w34 ⟨v15, rfl, ho0, hb⟩; have n0_ := Aside0.mk (Kd.R_elder' (rc HO_3.out) (Kd.R_base ho0) hb); have n1_ := Aside0.mk (Kd.R_lower (Kd.R_new' ho0 (Kd.R_lt (rc HO_3.out))) (below_size (lc HB.out))); have n2_ := Aside0.mk (below_step (lc HB.out) hb); clear HO_3; clear HB; have HO_3 := n0_; have HO16 := n1_; have HB := n2_; clear n0_ n1_ n2_; (try clear hb); (try clear hb2); (try clear hk); (try clear hi); (try clear ho0); obtain ⟨Ao35, co35, eo35⟩ := Kd.R_slice HO16.out; subst eo35; have p17 : 0 ≤ (0 : Int) := (by omega); have q17 : 0 < (t12.length : Int) := of_decide_eq_true (by first | (with_reducible assumption) | assumption); obtain ⟨ad17, e17, hx17_0, hx17_1, hx17_2⟩ := at_T32 (Kd.R_reads' HO16.out).2.2 0 p17 q17; cases e17; have qi17 : (0 < t12.length) = True := eq_true (by omega); (try rw [show ((0 : Int)).toNat = 0 from rfl] at hx17_0); (try rw [show 0 * 3 = 0 from rfl] at hx17_0); (try rw [Addr.add_zero'] at hx17_0); (try rw [show ((0 : Int)).toNat = 0 from rfl] at hx17_1); (try rw [show 0 * 3 = 0 from rfl] at hx17_1); (try rw [Addr.add_zero'] at hx17_1); (try rw [show ((0 : Int)).toNat = 0 from rfl] at hx17_2); (try rw [show 0 * 3 = 0 from rfl] at hx17_2); (try rw [Addr.add_zero'] at hx17_2); replace p17 := eq_true p17; replace q17 := eq_true q17; have p18 : 0 ≤ (x6_1 : Int) := of_decide_eq_true (by first | (with_reducible assumption) | assumption); have q18 : x6_1 < (t1.length : Int) := of_decide_eq_true (by first | (with_reducible assumption) | assumption); obtain ⟨ad18, e18, hx18_0, hx18_1, hx18_2⟩ := at_T32 (Kd.R_reads' HO_3.out).2.2 x6_1 p18 q18; obtain rfl : ad11 = ad18 := (by injection e18); replace p18 := eq_true p18; replace q18 := eq_true q18; have p19 : 0 ≤ (0 : Int) := (by omega); have q19 : 0 < (t12.length : Int) := of_decide_eq_true (by first | (with_reducible assumption) | assumption); obtain ⟨ad19, e19, hx19_0, hx19_1, hx19_2⟩ := at_T32 (Kd.R_reads' HO16.out).2.2 0 p19 q19; obtain rfl : ad17 = ad19 := (by injection e19); have qi19 : (0 < t12.length) = True := eq_true (by omega); (try rw [show ((0 : Int)).toNat = 0 from rfl] at hx19_0); (try rw [show 0 * 3 = 0 from rfl] at hx19_0); (try rw [Addr.add_zero'] at hx19_0); (try rw [show ((0 : Int)).toNat = 0 from rfl] at hx19_1); (try rw [show 0 * 3 = 0 from rfl] at hx19_1); (try rw [Addr.add_zero'] at hx19_1); (try rw [show ((0 : Int)).toNat = 0 from rfl] at hx19_2); (try rw [show 0 * 3 = 0 from rfl] at hx19_2); (try rw [Addr.add_zero'] at hx19_2); replace p19 := eq_true p19; replace q19 := eq_true q19; have p20 : 0 ≤ (x6_1 : Int) := of_decide_eq_true (by first | (with_reducible assumption) | assumption); have q20 : x6_1 < (t1.length : Int) := of_decide_eq_true (by first | (with_reducible assumption) | assumption); obtain ⟨ad20, e20, hx20_0, hx20_1, hx20_2⟩ := at_T32 (Kd.R_reads' HO_3.out).2.2 x6_1 p20 q20; obtain rfl : ad11 = ad20 := (by injection e20); replace p20 := eq_true p20; replace q20 := eq_true q20; have p21 : 0 ≤ (0 : Int) := (by omega); have q21 : 0 < (t12.length : Int) := of_decide_eq_true (by first | (with_reducible assumption) | assumption); obtain ⟨ad21, e21, hx21_0, hx21_1, hx21_2⟩ := at_T32 (Kd.R_reads' HO16.out).2.2 0 p21 q21; obtain rfl : ad17 = ad21 := (by injection e21); have qi21 : (0 < t12.length) = True := eq_true (by omega); (try rw [show ((0 : Int)).toNat = 0 from rfl] at hx21_0); (try rw [show 0 * 3 = 0 from rfl] at hx21_0); (try rw [Addr.add_zero'] at hx21_0); (try rw [show ((0 : Int)).toNat = 0 from rfl] at hx21_1); (try rw [show 0 * 3 = 0 from rfl] at hx21_1); (try rw [Addr.add_zero'] at hx21_1); (try rw [show ((0 : Int)).toNat = 0 from rfl] at hx21_2); (try rw [show 0 * 3 = 0 from rfl] at hx21_2); (try rw [Addr.add_zero'] at hx21_2); replace p21 := eq_true p21; replace q21 := eq_true q21))
                                              repeat (go_quiet (first | (go_at_call 8; (with_reducible refine (lex_Tokens.calls kj13 ((a0.extract 0 ((ji2) : Int).toNat).extract (((rd_T32 t1 x6_1).f2) : Int).toNat (x7_8 : Int).toNat) t12 t13 t14 _ ?side1 A25.out).mono ?_); (case side1 => exact G.at hG.out (lc HB.out)); rintro e w34 ⟨v15, rfl, ho0, hb⟩; have n0_ := Aside0.mk (Kd.R_elder' (rc HO_3.out) (Kd.R_base ho0) hb); have n1_ := Aside0.mk (Kd.R_lower (Kd.R_new' ho0 (Kd.R_lt (rc HO_3.out))) (below_size (lc HB.out))); have n2_ := Aside0.mk (below_step (lc HB.out) hb); clear HO_3; clear HB; have HO_3 := n0_; have HO16 := n1_; have HB := n2_; clear n0_ n1_ n2_; (try clear hb); (try clear hb2); (try clear hk); (try clear hi); (try clear ho0); obtain ⟨Ao35, co35, eo35⟩ := Kd.R_slice HO16.out; subst eo35; have p17 : 0 ≤ (0 : Int) := (by omega); have q17 : 0 < (t12.length : Int) := of_decide_eq_true (by first | (with_reducible assumption) | assumption); obtain ⟨ad17, e17, hx17_0, hx17_1, hx17_2⟩ := at_T32 (Kd.R_reads' HO16.out).2.2 0 p17 q17; cases e17; have qi17 : (0 < t12.length) = True := eq_true (by omega); (try rw [show ((0 : Int)).toNat = 0 from rfl] at hx17_0); (try rw [show 0 * 3 = 0 from rfl] at hx17_0); (try rw [Addr.add_zero'] at hx17_0); (try rw [show ((0 : Int)).toNat = 0 from rfl] at hx17_1); (try rw [show 0 * 3 = 0 from rfl] at hx17_1); (try rw [Addr.add_zero'] at hx17_1); (try rw [show ((0 : Int)).toNat = 0 from rfl] at hx17_2); (try rw [show 0 * 3 = 0 from rfl] at hx17_2); (try rw [Addr.add_zero'] at hx17_2); replace p17 := eq_true p17; replace q17 := eq_true q17; have p18 : 0 ≤ (x6_1 : Int) := of_decide_eq_true (by first | (with_reducible assumption) | assumption); have q18 : x6_1 < (t1.length : Int) := of_decide_eq_true (by first | (with_reducible assumption) | assumption); obtain ⟨ad18, e18, hx18_0, hx18_1, hx18_2⟩ := at_T32 (Kd.R_reads' HO_3.out).2.2 x6_1 p18 q18; obtain rfl : ad11 = ad18 := (by injection e18); replace p18 := eq_true p18; replace q18 := eq_true q18; have p19 : 0 ≤ (0 : Int) := (by omega); have q19 : 0 < (t12.length : Int) := of_decide_eq_true (by first | (with_reducible assumption) | assumption); obtain ⟨ad19, e19, hx19_0, hx19_1, hx19_2⟩ := at_T32 (Kd.R_reads' HO16.out).2.2 0 p19 q19; obtain rfl : ad17 = ad19 := (by injection e19); have qi19 : (0 < t12.length) = True := eq_true (by omega); (try rw [show ((0 : Int)).toNat = 0 from rfl] at hx19_0); (try rw [show 0 * 3 = 0 from rfl] at hx19_0); (try rw [Addr.add_zero'] at hx19_0); (try rw [show ((0 : Int)).toNat = 0 from rfl] at hx19_1); (try rw [show 0 * 3 = 0 from rfl] at hx19_1); (try rw [Addr.add_zero'] at hx19_1); (try rw [show ((0 : Int)).toNat = 0 from rfl] at hx19_2); (try rw [show 0 * 3 = 0 from rfl] at hx19_2); (try rw [Addr.add_zero'] at hx19_2); replace p19 := eq_true p19; replace q19 := eq_true q19; have p20 : 0 ≤ (x6_1 : Int) := of_decide_eq_true (by first | (with_reducible assumption) | assumption); have q20 : x6_1 < (t1.length : Int) := of_decide_eq_true (by first | (with_reducible assumption) | assumption); obtain ⟨ad20, e20, hx20_0, hx20_1, hx20_2⟩ := at_T32 (Kd.R_reads' HO_3.out).2.2 x6_1 p20 q20; obtain rfl : ad11 = ad20 := (by injection e20); replace p20 := eq_true p20; replace q20 := eq_true q20; have p21 : 0 ≤ (0 : Int) := (by omega); have q21 : 0 < (t12.length : Int) := of_decide_eq_true (by first | (with_reducible assumption) | assumption); obtain ⟨ad21, e21, hx21_0, hx21_1, hx21_2⟩ := at_T32 (Kd.R_reads' HO16.out).2.2 0 p21 q21; obtain rfl : ad17 = ad21 := (by injection e21); have qi21 : (0 < t12.length) = True := eq_true (by omega); (try rw [show ((0 : Int)).toNat = 0 from rfl] at hx21_0); (try rw [show 0 * 3 = 0 from rfl] at hx21_0); (try rw [Addr.add_zero'] at hx21_0); (try rw [show ((0 : Int)).toNat = 0 from rfl] at hx21_1); (try rw [show 0 * 3 = 0 from rfl] at hx21_1); (try rw [Addr.add_zero'] at hx21_1); (try rw [show ((0 : Int)).toNat = 0 from rfl] at hx21_2); (try rw [show 0 * 3 = 0 from rfl] at hx21_2); (try rw [Addr.add_zero'] at hx21_2); replace p21 := eq_true p21; replace q21 := eq_true q21)); try go_wp2_with (first | (go_at_call 8; (with_reducible refine (lex_Tokens.calls kj13 ((a0.extract 0 ((ji2) : Int).toNat).extract (((rd_T32 t1 x6_1).f2) : Int).toNat (x7_8 : Int).toNat) t12 t13 t14 _ ?side1 A25.out).mono ?_); (case side1 => exact G.at hG.out (lc HB.out)); rintro e w34 ⟨v15, rfl, ho0, hb⟩; have n0_ := Aside0.mk (Kd.R_elder' (rc HO_3.out) (Kd.R_base ho0) hb); have n1_ := Aside0.mk (Kd.R_lower (Kd.R_new' ho0 (Kd.R_lt (rc HO_3.out))) (below_size (lc HB.out))); have n2_ := Aside0.mk (below_step (lc HB.out) hb); clear HO_3; clear HB; have HO_3 := n0_; have HO16 := n1_; have HB := n2_; clear n0_ n1_ n2_; (try clear hb); (try clear hb2); (try clear hk); (try clear hi); (try clear ho0); obtain ⟨Ao35, co35, eo35⟩ := Kd.R_slice HO16.out; subst eo35; have p17 : 0 ≤ (0 : Int) := (by omega); have q17 : 0 < (t12.length : Int) := of_decide_eq_true (by first | (with_reducible assumption) | assumption); obtain ⟨ad17, e17, hx17_0, hx17_1, hx17_2⟩ := at_T32 (Kd.R_reads' HO16.out).2.2 0 p17 q17; cases e17; have qi17 : (0 < t12.length) = True := eq_true (by omega); (try rw [show ((0 : Int)).toNat = 0 from rfl] at hx17_0); (try rw [show 0 * 3 = 0 from rfl] at hx17_0); (try rw [Addr.add_zero'] at hx17_0); (try rw [show ((0 : Int)).toNat = 0 from rfl] at hx17_1); (try rw [show 0 * 3 = 0 from rfl] at hx17_1); (try rw [Addr.add_zero'] at hx17_1); (try rw [show ((0 : Int)).toNat = 0 from rfl] at hx17_2); (try rw [show 0 * 3 = 0 from rfl] at hx17_2); (try rw [Addr.add_zero'] at hx17_2); replace p17 := eq_true p17; replace q17 := eq_true q17; have p18 : 0 ≤ (x6_1 : Int) := of_decide_eq_true (by first | (with_reducible assumption) | assumption); have q18 : x6_1 < (t1.length : Int) := of_decide_eq_true (by first | (with_reducible assumption) | assumption); obtain ⟨ad18, e18, hx18_0, hx18_1, hx18_2⟩ := at_T32 (Kd.R_reads' HO_3.out).2.2 x6_1 p18 q18; obtain rfl : ad11 = ad18 := (by injection e18); replace p18 := eq_true p18; replace q18 := eq_true q18; have p19 : 0 ≤ (0 : Int) := (by omega); have q19 : 0 < (t12.length : Int) := of_decide_eq_true (by first | (with_reducible assumption) | assumption); obtain ⟨ad19, e19, hx19_0, hx19_1, hx19_2⟩ := at_T32 (Kd.R_reads' HO16.out).2.2 0 p19 q19; obtain rfl : ad17 = ad19 := (by injection e19); have qi19 : (0 < t12.length) = True := eq_true (by omega); (try rw [show ((0 : Int)).toNat = 0 from rfl] at hx19_0); (try rw [show 0 * 3 = 0 from rfl] at hx19_0); (try rw [Addr.add_zero'] at hx19_0); (try rw [show ((0 : Int)).toNat = 0 from rfl] at hx19_1); (try rw [show 0 * 3 = 0 from rfl] at hx19_1); (try rw [Addr.add_zero'] at hx19_1); (try rw [show ((0 : Int)).toNat = 0 from rfl] at hx19_2); (try rw [show 0 * 3 = 0 from rfl] at hx19_2); (try rw [Addr.add_zero'] at hx19_2); replace p19 := eq_true p19; replace q19 := eq_true q19; have p20 : 0 ≤ (x6_1 : Int) := of_decide_eq_true (by first | (with_reducible assumption) | assumption); have q20 : x6_1 < (t1.length : Int) := of_decide_eq_true (by first | (with_reducible assumption) | assumption); obtain ⟨ad20, e20, hx20_0, hx20_1, hx20_2⟩ := at_T32 (Kd.R_reads' HO_3.out).2.2 x6_1 p20 q20; obtain rfl : ad11 = ad20 := (by injection e20); replace p20 := eq_true p20; replace q20 := eq_true q20; have p21 : 0 ≤ (0 : Int) := (by omega); have q21 : 0 < (t12.length : Int) := of_decide_eq_true (by first | (with_reducible assumption) | assumption); obtain ⟨ad21, e21, hx21_0, hx21_1, hx21_2⟩ := at_T32 (Kd.R_reads' HO16.out).2.2 0 p21 q21; obtain rfl : ad17 = ad21 := (by injection e21); have qi21 : (0 < t12.length) = True := eq_true (by omega); (try rw [show ((0 : Int)).toNat = 0 from rfl] at hx21_0); (try rw [show 0 * 3 = 0 from rfl] at hx21_0); (try rw [Addr.add_zero'] at hx21_0); (try rw [show ((0 : Int)).toNat = 0 from rfl] at hx21_1); (try rw [show 0 * 3 = 0 from rfl] at hx21_1); (try rw [Addr.add_zero'] at hx21_1); (try rw [show ((0 : Int)).toNat = 0 from rfl] at hx21_2); (try rw [show 0 * 3 = 0 from rfl] at hx21_2); (try rw [Addr.add_zero'] at hx21_2); replace p21 := eq_true p21; replace q21 := eq_true q21)))
                                              go_ret
                                              exact ⟨by first | rfl | (simp [errW_none, errW_some] <;> rfl) | (simp only [← hji2]; first | rfl | (simp [errW_none, errW_some] <;> rfl)) | (simp [*, errW_none, errW_some] <;> rfl), by exact lc HB.out⟩
                                          · rw [if_neg c30] at H
                                            have c30b0 : (((rd_T32 t12 0).f1).toList == ((rd_T32 t1 x6_1).f1).toList) = false := beq_eq_false_iff_ne.mpr c30
                                            have c30b1 : (((rd_T32 t12 0).f1).toList != ((rd_T32 t1 x6_1).f1).toList) = true := bne_iff_ne.mpr c30
                                            obtain rfl := Option.some.inj H
                                            have p11 : 0 ≤ (x6_1 : Int) := of_decide_eq_true (by first | (with_reducible assumption) | assumption)
                                            have q11 : x6_1 < (t1.length : Int) := of_decide_eq_true (by first | (with_reducible assumption) | assumption)
                                            obtain ⟨ad11, e11, hx11_0, hx11_1, hx11_2⟩ := at_T32 (Kd.R_reads' HO_3.out).2.2 x6_1 p11 q11
                                            cases e11
                                            replace p11 := eq_true p11
                                            replace q11 := eq_true q11
                                            go_wp2_with (first | (go_at_call 8; (with_reducible refine (lex_Tokens.calls kj13 ((a0.extract 0 ((ji2) : Int).toNat).extract (((rd_T32 t1 x6_1).f2) : Int).toNat (x7_8 : Int).toNat) t12 t13 t14 _ ?side1 A25.out).mono ?_); (case side1 => exact G.at hG.out (lc HB.out)); rintro e w36 ⟨v15, rfl, ho0, hb⟩; have n0_ := Aside0.mk (Kd.R_elder' (rc HO_3.out) (Kd.R_base ho0) hb); have n1_ := Aside0.mk (Kd.R_lower (Kd.R_new' ho0 (Kd.R_lt (rc HO_3.out))) (below_size (lc HB.out))); have n2_ := Aside0.mk (below_step (lc HB.out) hb); clear HO_3; clear HB; have HO_3 := n0_; have HO16 := n1_; have HB := n2_; clear n0_ n1_ n2_; (try clear hb); (try clear hb2); (try clear hk); (try clear hi); (try clear ho0); obtain ⟨Ao37, co37, eo37⟩ := Kd.R_slice HO16.out; subst eo37; have p17 : 0 ≤ (0 : Int) := (by omega); have q17 : 0 < (t12.length : Int) := of_decide_eq_true (by first | (with_reducible assumption) | assumption); obtain ⟨ad17, e17, hx17_0, hx17_1, hx17_2⟩ := at_T32 (Kd.R_reads' HO16.out).2.2 0 p17 q17; cases e17; have qi17 : (0 < t12.length) = True := eq_true (by omega); (try rw [show ((0 : Int)).toNat = 0 from rfl] at hx17_0); (try rw [show 0 * 3 = 0 from rfl] at hx17_0); (try rw [Addr.add_zero'] at hx17_0); (try rw [show ((0 : Int)).toNat = 0 from rfl] at hx17_1); (try rw [show 0 * 3 = 0 from rfl] at hx17_1); (try rw [Addr.add_zero'] at hx17_1); (try rw [show ((0 : Int)).toNat = 0 from rfl] at hx17_2); (try rw [show 0 * 3 = 0 from rfl] at hx17_2); (try rw [Addr.add_zero'] at hx17_2); replace p17 := eq_true p17; replace q17 := eq_true q17; have p18 : 0 ≤ (x6_1 : Int) := of_decide_eq_true (by first | (with_reducible assumption) | assumption); have q18 : x6_1 < (t1.length : Int) := of_decide_eq_true (by first | (with_reducible assumption) | assumption); obtain ⟨ad18, e18, hx18_0, hx18_1, hx18_2⟩ := at_T32 (Kd.R_reads' HO_3.out).2.2 x6_1 p18 q18; obtain rfl : ad11 = ad18 := (by injection e18); replace p18 := eq_true p18; replace q18 := eq_true q18; have p19 : 0 ≤ (0 : Int) := (by omega); have q19 : 0 < (t12.length : Int) := of_decide_eq_true (by first | (with_reducible assumption) | assumption); obtain ⟨ad19, e19, hx19_0, hx19_1, hx19_2⟩ := at_T32 (Kd.R_reads' HO16.out).2.2 0 p19 q19; obtain rfl : ad17 = ad19 := (by injection e19); have qi19 : (0 < t12.length) = True := eq_true (by omega); (try rw [show ((0 : Int)).toNat = 0 from rfl] at hx19_0); (try rw [show 0 * 3 = 0 from rfl] at hx19_0); (try rw [Addr.add_zero'] at hx19_0); (try rw [show ((0 : Int)).toNat = 0 from rfl] at hx19_1); (try rw [show 0 * 3 = 0 from rfl] at hx19_1); (try rw [Addr.add_zero'] at hx19_1); (try rw [show ((0 : Int)).toNat = 0 from rfl] at hx19_2); (try rw [show 0 * 3 = 0 from rfl] at hx19_2); (try rw [Addr.add_zero'] at hx19_2); replace p19 := eq_true p19; replace q19 := eq_true q19; have p20 : 0 ≤ (x6_1 : Int) := of_decide_eq_true (by first | (with_reducible assumption) | assumption); have q20 : x6_1 < (t1.length : Int) := of_decide_eq_true (by first | (with_reducible assumption) | assumption); obtain ⟨ad20, e20, hx20_0, hx20_1, hx20_2⟩ := at_T32 (Kd.R_reads' HO_3.out).2.2 x6_1 p20 q20; obtain rfl : ad11 = ad20 := (by injection e20); replace p20 := eq_true p20; replace q20 := eq_true q20))
                                            repeat (go_quiet (first | (go_at_call 8; (with_reducible refine (lex_Tokens.calls kj13 ((a0.extract 0 ((ji2) : Int).toNat).extract (((rd_T32 t1 x6_1).f2) : Int).toNat (x7_8 : Int).toNat) t12 t13 t14 _ ?side1 A25.out).mono ?_); (case side1 => exact G.at hG.out (lc HB.out)); rintro e w36 ⟨v15, rfl, ho0, hb⟩; have n0_ := Aside0.mk (Kd.R_elder' (rc HO_3.out) (Kd.R_base ho0) hb); have n1_ := Aside0.mk (Kd.R_lower (Kd.R_new' ho0 (Kd.R_lt (rc HO_3.out))) (below_size (lc HB.out))); have n2_ := Aside0.mk (below_step (lc HB.out) hb); clear HO_3; clear HB; have HO_3 := n0_; have HO16 := n1_; have HB := n2_; clear n0_ n1_ n2_; (try clear hb); (try clear hb2); (try clear hk); (try clear hi); (try clear ho0); obtain ⟨Ao37, co37, eo37⟩ := Kd.R_slice HO16.out; subst eo37; have p17 : 0 ≤ (0 : Int) := (by omega); have q17 : 0 < (t12.length : Int) := of_decide_eq_true (by first | (with_reducible assumption) | assumption); obtain ⟨ad17, e17, hx17_0, hx17_1, hx17_2⟩ := at_T32 (Kd.R_reads' HO16.out).2.2 0 p17 q17; cases e17; have qi17 : (0 < t12.length) = True := eq_true (by omega); (try rw [show ((0 : Int)).toNat = 0 from rfl] at hx17_0); (try rw [show 0 * 3 = 0 from rfl] at hx17_0); (try rw [Addr.add_zero'] at hx17_0); (try rw [show ((0 : Int)).toNat = 0 from rfl] at hx17_1); (try rw [show 0 * 3 = 0 from rfl] at hx17_1); (try rw [Addr.add_zero'] at hx17_1); (try rw [show ((0 : Int)).toNat = 0 from rfl] at hx17_2); (try rw [show 0 * 3 = 0 from rfl] at hx17_2); (try rw [Addr.add_zero'] at hx17_2); replace p17 := eq_true p17; replace q17 := eq_true q17; have p18 : 0 ≤ (x6_1 : Int) := of_decide_eq_true (by first | (with_reducible assumption) | assumption); have q18 : x6_1 < (t1.length : Int) := of_decide_eq_true (by first | (with_reducible assumption) | assumption); obtain ⟨ad18, e18, hx18_0, hx18_1, hx18_2⟩ := at_T32 (Kd.R_reads' HO_3.out).2.2 x6_1 p18 q18; obtain rfl : ad11 = ad18 := (by injection e18); replace p18 := eq_true p18; replace q18 := eq_true q18; have p19 : 0 ≤ (0 : Int) := (by omega); have q19 : 0 < (t12.length : Int) := of_decide_eq_true (by first | (with_reducible assumption) | assumption); obtain ⟨ad19, e19, hx19_0, hx19_1, hx19_2⟩ := at_T32 (Kd.R_reads' HO16.out).2.2 0 p19 q19; obtain rfl : ad17 = ad19 := (by injection e19); have qi19 : (0 < t12.length) = True := eq_true (by omega); (try rw [show ((0 : Int)).toNat = 0 from rfl] at hx19_0); (try rw [show 0 * 3 = 0 from rfl] at hx19_0); (try rw [Addr.add_zero'] at hx19_0); (try rw [show ((0 : Int)).toNat = 0 from rfl] at hx19_1); (try rw [show 0 * 3 = 0 from rfl] at hx19_1); (try rw [Addr.add_zero'] at hx19_1); (try rw [show ((0 : Int)).toNat = 0 from rfl] at hx19_2); (try rw [show 0 * 3 = 0 from rfl] at hx19_2); (try rw [Addr.add_zero'] at hx19_2); replace p19 := eq_true p19; replace q19 := eq_true q19; have p20 : 0 ≤ (x6_1 : Int) := of_decide_eq_true (by first | (with_reducible assumption) | assumption); have q20 : x6_1 < (t1.length : Int) := of_decide_eq_true (by first | (with_reducible assumption) | assumption); obtain ⟨ad20, e20, hx20_0, hx20_1, hx20_2⟩ := at_T32 (Kd.R_reads' HO_3.out).2.2 x6_1 p20 q20; obtain rfl : ad11 = ad20 := (by injection e20); replace p20 := eq_true p20; replace q20 := eq_true q20)); try go_wp2_with (first | (go_at_call 8; (with_reducible refine (lex_Tokens.calls kj13 ((a0.extract 0 ((ji2) : Int).toNat).extract (((rd_T32 t1 x6_1).f2) : Int).toNat (x7_8 : Int).toNat) t12 t13 t14 _ ?side1 A25.out).mono ?_); (case side1 => exact G.at hG.out (lc HB.out)); rintro e w36 ⟨v15, rfl, ho0, hb⟩; have n0_ := Aside0.mk (Kd.R_elder' (rc HO_3.out) (Kd.R_base ho0) hb); have n1_ := Aside0.mk (Kd.R_lower (Kd.R_new' ho0 (Kd.R_lt (rc HO_3.out))) (below_size (lc HB.out))); have n2_ := Aside0.mk (below_step (lc HB.out) hb); clear HO_3; clear HB; have HO_3 := n0_; have HO16 := n1_; have HB := n2_; clear n0_ n1_ n2_; (try clear hb); (try clear hb2); (try clear hk); (try clear hi); (try clear ho0); obtain ⟨Ao37, co37, eo37⟩ := Kd.R_slice HO16.out; subst eo37; have p17 : 0 ≤ (0 : Int) := (by omega); have q17 : 0 < (t12.length : Int) := of_decide_eq_true (by first | (with_reducible assumption) | assumption); obtain ⟨ad17, e17, hx17_0, hx17_1, hx17_2⟩ := at_T32 (Kd.R_reads' HO16.out).2.2 0 p17 q17; cases e17; have qi17 : (0 < t12.length) = True := eq_true (by omega); (try rw [show ((0 : Int)).toNat = 0 from rfl] at hx17_0); (try rw [show 0 * 3 = 0 from rfl] at hx17_0); (try rw [Addr.add_zero'] at hx17_0); (try rw [show ((0 : Int)).toNat = 0 from rfl] at hx17_1); (try rw [show 0 * 3 = 0 from rfl] at hx17_1); (try rw [Addr.add_zero'] at hx17_1); (try rw [show ((0 : Int)).toNat = 0 from rfl] at hx17_2); (try rw [show 0 * 3 = 0 from rfl] at hx17_2); (try rw [Addr.add_zero'] at hx17_2); replace p17 := eq_true p17; replace q17 := eq_true q17; have p18 : 0 ≤ (x6_1 : Int) := of_decide_eq_true (by first | (with_reducible assumption) | assumption); have q18 : x6_1 < (t1.length : Int) := of_decide_eq_true (by first | (with_reducible assumption) | assumption); obtain ⟨ad18, e18, hx18_0, hx18_1, hx18_2⟩ := at_T32 (Kd.R_reads' HO_3.out).2.2 x6_1 p18 q18; obtain rfl : ad11 = ad18 := (by injection e18); replace p18 := eq_true p18; replace q18 := eq_true q18; have p19 : 0 ≤ (0 : Int) := (by omega); have q19 : 0 < (t12.length : Int) := of_decide_eq_true (by first | (with_reducible assumption) | assumption); obtain ⟨ad19, e19, hx19_0, hx19_1, hx19_2⟩ := at_T32 (Kd.R_reads' HO16.out).2.2 0 p19 q19; obtain rfl : ad17 = ad19 := (by injection e19); have qi19 : (0 < t12.length) = True := eq_true (by omega); (try rw [show ((0 : Int)).toNat = 0 from rfl] at hx19_0); (try rw [show 0 * 3 = 0 from rfl] at hx19_0); (try rw [Addr.add_zero'] at hx19_0); (try rw [show ((0 : Int)).toNat = 0 from rfl] at hx19_1); (try rw [show 0 * 3 = 0 from rfl] at hx19_1); (try rw [Addr.add_zero'] at hx19_1); (try rw [show ((0 : Int)).toNat = 0 from rfl] at hx19_2); (try rw [show 0 * 3 = 0 from rfl] at hx19_2); (try rw [Addr.add_zero'] at hx19_2); replace p19 := eq_true p19; replace q19 := eq_true q19; have p20 : 0 ≤ (x6_1 : Int) := of_decide_eq_true (by first | (with_reducible assumption) | assumption); have q20 : x6_1 < (t1.length : Int) := of_decide_eq_true (by first | (with_reducible assumption) | assumption); obtain ⟨ad20, e20, hx20_0, hx20_1, hx20_2⟩ := at_T32 (Kd.R_reads' HO_3.out).2.2 x6_1 p20 q20; obtain rfl : ad11 = ad20 := (by injection e20); replace p20 := eq_true p20; replace q20 := eq_true q20)))
                                            go_ret
                                            exact ⟨by first | rfl | (simp [errW_none, errW_some] <;> rfl) | (simp only [← hji2]; first | rfl | (simp [errW_none, errW_some] <;> rfl)) | (simp [*, errW_none, errW_some] <;> rfl), by exact lc HB.out⟩
                                        · rw [if_neg c29] at H
                                          have c29b0 : (((rd_T32 t12 0).f0) == ((rd_T32 t1 x6_1).f0)) = false := beq_eq_false_iff_ne.mpr c29
                                          have c29b1 : (((rd_T32 t12 0).f0) != ((rd_T32 t1 x6_1).f0)) = true := bne_iff_ne.mpr c29
                                          obtain rfl := Option.some.inj H
                                          have p11 : 0 ≤ (x6_1 : Int) := of_decide_eq_true (by first | (with_reducible assumption) | assumption)
                                          have q11 : x6_1 < (t1.length : Int) := of_decide_eq_true (by first | (with_reducible assumption) | assumption)
                                          obtain ⟨ad11, e11, hx11_0, hx11_1, hx11_2⟩ := at_T32 (Kd.R_reads' HO_3.out).2.2 x6_1 p11 q11
                                          cases e11
                                          replace p11 := eq_true p11
                                          replace q11 := eq_true q11
                                          go_wp2_with (first | (go_at_call 8; (with_reducible refine (lex_Tokens.calls kj13 ((a0.extract 0 ((ji2) : Int).toNat).extract (((rd_T32 t1 x6_1).f2) : Int).toNat (x7_8 : Int).toNat) t12 t13 t14 _ ?side1 A25.out).mono ?_); (case side1 => exact G.at hG.out (lc HB.out)); rintro e w38 ⟨v15, rfl, ho0, hb⟩; have n0_ := Aside0.mk (Kd.R_elder' (rc HO_3.out) (Kd.R_base ho0) hb); have n1_ := Aside0.mk (Kd.R_lower (Kd.R_new' ho0 (Kd.R_lt (rc HO_3.out))) (below_size (lc HB.out))); have n2_ := Aside0.mk (below_step (lc HB.out) hb); clear HO_3; clear HB; have HO_3 := n0_; have HO16 := n1_; have HB := n2_; clear n0_ n1_ n2_; (try clear hb); (try clear hb2); (try clear hk); (try clear hi); (try clear ho0); obtain ⟨Ao39, co39, eo39⟩ := Kd.R_slice HO16.out; subst eo39; have p17 : 0 ≤ (0 : Int) := (by omega); have q17 : 0 < (t12.length : Int) := of_decide_eq_true (by first | (with_reducible assumption) | assumption); obtain ⟨ad17, e17, hx17_0, hx17_1, hx17_2⟩ := at_T32 (Kd.R_reads' HO16.out).2.2 0 p17 q17; cases e17; have qi17 : (0 < t12.length) = True := eq_true (by omega); (try rw [show ((0 : Int)).toNat = 0 from rfl] at hx17_0); (try rw [show 0 * 3 = 0 from rfl] at hx17_0); (try rw [Addr.add_zero'] at hx17_0); (try rw [show ((0 : Int)).toNat = 0 from rfl] at hx17_1); (try rw [show 0 * 3 = 0 from rfl] at hx17_1); (try rw [Addr.add_zero'] at hx17_1); (try rw [show ((0 : Int)).toNat = 0 from rfl] at hx17_2); (try rw [show 0 * 3 = 0 from rfl] at hx17_2); (try rw [Addr.add_zero'] at hx17_2); replace p17 := eq_true p17; replace q17 := eq_true q17; have p18 : 0 ≤ (x6_1 : Int) := of_decide_eq_true (by first | (with_reducible assumption) | assumption); have q18 : x6_1 < (t1.length : Int) := of_decide_eq_true (by first | (with_reducible assumption) | assumption); obtain ⟨ad18, e18, hx18_0, hx18_1, hx18_2⟩ := at_T32 (Kd.R_reads' HO_3.out).2.2 x6_1 p18 q18; obtain rfl : ad11 = ad18 := (by injection e18); replace p18 := eq_true p18; replace q18 := eq_true q18))
                                          repeat (go_quiet (first | (go_at_call 8; (with_reducible refine (lex_Tokens.calls kj13 ((a0.extract 0 ((ji2) : Int).toNat).extract (((rd_T32 t1 x6_1).f2) : Int).toNat (x7_8 : Int).toNat) t12 t13 t14 _ ?side1 A25.out).mono ?_); (case side1 => exact G.at hG.out (lc HB.out)); rintro e w38 ⟨v15, rfl, ho0, hb⟩; have n0_ := Aside0.mk (Kd.R_elder' (rc HO_3.out) (Kd.R_base ho0) hb); have n1_ := Aside0.mk (Kd.R_lower (Kd.R_new' ho0 (Kd.R_lt (rc HO_3.out))) (below_size (lc HB.out))); have n2_ := Aside0.mk (below_step (lc HB.out) hb); clear HO_3; clear HB; have HO_3 := n0_; have HO16 := n1_; have HB := n2_; clear n0_ n1_ n2_; (try clear hb); (try clear hb2); (try clear hk); (try clear hi); (try clear ho0); obtain ⟨Ao39, co39, eo39⟩ := Kd.R_slice HO16.out; subst eo39; have p17 : 0 ≤ (0 : Int) := (by omega); have q17 : 0 < (t12.length : Int) := of_decide_eq_true (by first | (with_reducible assumption) | assumption); obtain ⟨ad17, e17, hx17_0, hx17_1, hx17_2⟩ := at_T32 (Kd.R_reads' HO16.out).2.2 0 p17 q17; cases e17; have qi17 : (0 < t12.length) = True := eq_true (by omega); (try rw [show ((0 : Int)).toNat = 0 from rfl] at hx17_0); (try rw [show 0 * 3 = 0 from rfl] at hx17_0); (try rw [Addr.add_zero'] at hx17_0); (try rw [show ((0 : Int)).toNat = 0 from rfl] at hx17_1); (try rw [show 0 * 3 = 0 from rfl] at hx17_1); (try rw [Addr.add_zero'] at hx17_1); (try rw [show ((0 : Int)).toNat = 0 from rfl] at hx17_2); (try rw [show 0 * 3 = 0 from rfl] at hx17_2); (try rw [Addr.add_zero'] at hx17_2); replace p17 := eq_true p17; replace q17 := eq_true q17; have p18 : 0 ≤ (x6_1 : Int) := of_decide_eq_true (by first | (with_reducible assumption) | assumption); have q18 : x6_1 < (t1.length : Int) := of_decide_eq_true (by first | (with_reducible assumption) | assumption); obtain ⟨ad18, e18, hx18_0, hx18_1, hx18_2⟩ := at_T32 (Kd.R_reads' HO_3.out).2.2 x6_1 p18 q18; obtain rfl : ad11 = ad18 := (by injection e18); replace p18 := eq_true p18; replace q18 := eq_true q18)); try go_wp2_with (first | (go_at_call 8; (with_reducible refine (lex_Tokens.calls kj13 ((a0.extract 0 ((ji2) : Int).toNat).extract (((rd_T32 t1 x6_1).f2) : Int).toNat (x7_8 : Int).toNat) t12 t13 t14 _ ?side1 A25.out).mono ?_); (case side1 => exact G.at hG.out (lc HB.out)); rintro e w38 ⟨v15, rfl, ho0, hb⟩; have n0_ := Aside0.mk (Kd.R_elder' (rc HO_3.out) (Kd.R_base ho0) hb); have n1_ := Aside0.mk (Kd.R_lower (Kd.R_new' ho0 (Kd.R_lt (rc HO_3.out))) (below_size (lc HB.out))); have n2_ := Aside0.mk (below_step (lc HB.out) hb); clear HO_3; clear HB; have HO_3 := n0_; have HO16 := n1_; have HB := n2_; clear n0_ n1_ n2_; (try clear hb); (try clear hb2); (try clear hk); (try clear hi); (try clear ho0); obtain ⟨Ao39, co39, eo39⟩ := Kd.R_slice HO16.out; subst eo39; have p17 : 0 ≤ (0 : Int) := (by omega); have q17 : 0 < (t12.length : Int) := of_decide_eq_true (by first | (with_reducible assumption) | assumption); obtain ⟨ad17, e17, hx17_0, hx17_1, hx17_2⟩ := at_T32 (Kd.R_reads' HO16.out).2.2 0 p17 q17; cases e17; have qi17 : (0 < t12.length) = True := eq_true (by omega); (try rw [show ((0 : Int)).toNat = 0 from rfl] at hx17_0); (try rw [show 0 * 3 = 0 from rfl] at hx17_0); (try rw [Addr.add_zero'] at hx17_0); (try rw [show ((0 : Int)).toNat = 0 from rfl] at hx17_1); (try rw [show 0 * 3 = 0 from rfl] at hx17_1); (try rw [Addr.add_zero'] at hx17_1); (try rw [show ((0 : Int)).toNat = 0 from rfl] at hx17_2); (try rw [show 0 * 3 = 0 from rfl] at hx17_2); (try rw [Addr.add_zero'] at hx17_2); replace p17 := eq_true p17; replace q17 := eq_true q17; have p18 : 0 ≤ (x6_1 : Int) := of_decide_eq_true (by first | (with_reducible assumption) | assumption); have q18 : x6_1 < (t1.length : Int) := of_decide_eq_true (by first | (with_reducible assumption) | assumption); obtain ⟨ad18, e18, hx18_0, hx18_1, hx18_2⟩ := at_T32 (Kd.R_reads' HO_3.out).2.2 x6_1 p18 q18; obtain rfl : ad11 = ad18 := (by injection e18); replace p18 := eq_true p18; replace q18 := eq_true q18)))
                                          go_ret
                                          exact ⟨by first | rfl | (simp [errW_none, errW_some] <;> rfl) | (simp only [← hji2]; first | rfl | (simp [errW_none, errW_some] <;> rfl)) | (simp [*, errW_none, errW_some] <;> rfl), by exact lc HB.out⟩
                                      · rw [if_neg c28] at H
                                        exact absurd H (by simp)
                                    · rw [if_neg c27] at H
                                      have c27b0 : ((t12.length : Int) == 1) = false := beq_eq_false_iff_ne.mpr c27
                                      have c27b1 : ((t12.length : Int) != 1) = true := bne_iff_ne.mpr c27
                                      obtain rfl := Option.some.inj H
                                      have p11 : 0 ≤ (x6_1 : Int) := of_decide_eq_true (by first | (with_reducible assumption) | assumption)
                                      have q11 : x6_1 < (t1.length : Int) := of_decide_eq_true (by first | (with_reducible assumption) | assumption)
                                      obtain ⟨ad11, e11, hx11_0, hx11_1, hx11_2⟩ := at_T32 (Kd.R_reads' HO_3.out).2.2 x6_1 p11 q11
                                      cases e11
                                      replace p11 := eq_true p11
                                      replace q11 := eq_true q11
                                      go_wp2_with (first | (go_at_call 8; (with_reducible refine (lex_Tokens.calls kj13 ((a0.extract 0 ((ji2) : Int).toNat).extract (((rd_T32 t1 x6_1).f2) : Int).toNat (x7_8 : Int).toNat) t12 t13 t14 _ ?side1 A25.out).mono ?_); (case side1 => exact G.at hG.out (lc HB.out)); rintro e w40 ⟨v15, rfl, ho0, hb⟩; have n0_ := Aside0.mk (Kd.R_elder' (rc HO_3.out) (Kd.R_base ho0) hb); have n1_ := Aside0.mk (Kd.R_lower (Kd.R_new' ho0 (Kd.R_lt (rc HO_3.out))) (below_size (lc HB.out))); have n2_ := Aside0.mk (below_step (lc HB.out) hb); clear HO_3; clear HB; have HO_3 := n0_; have HO16 := n1_; have HB := n2_; clear n0_ n1_ n2_; (try clear hb); (try clear hb2); (try clear hk); (try clear hi); (try clear ho0); obtain ⟨Ao41, co41, eo41⟩ := Kd.R_slice HO16.out; subst eo41))
                                      repeat (go_quiet (first | (go_at_call 8; (with_reducible refine (lex_Tokens.calls kj13 ((a0.extract 0 ((ji2) : Int).toNat).extract (((rd_T32 t1 x6_1).f2) : Int).toNat (x7_8 : Int).toNat) t12 t13 t14 _ ?side1 A25.out).mono ?_); (case side1 => exact G.at hG.out (lc HB.out)); rintro e w40 ⟨v15, rfl, ho0, hb⟩; have n0_ := Aside0.mk (Kd.R_elder' (rc HO_3.out) (Kd.R_base ho0) hb); have n1_ := Aside0.mk (Kd.R_lower (Kd.R_new' ho0 (Kd.R_lt (rc HO_3.out))) (below_size (lc HB.out))); have n2_ := Aside0.mk (below_step (lc HB.out) hb); clear HO_3; clear HB; have HO_3 := n0_; have HO16 := n1_; have HB := n2_; clear n0_ n1_ n2_; (try clear hb); (try clear hb2); (try clear hk); (try clear hi); (try clear ho0); obtain ⟨Ao41, co41, eo41⟩ := Kd.R_slice HO16.out; subst eo41)); try go_wp2_with (first | (go_at_call 8; (with_reducible refine (lex_Tokens.calls kj13 ((a0.extract 0 ((ji2) : Int).toNat).extract (((rd_T32 t1 x6_1).f2) : Int).toNat (x7_8 : Int).toNat) t12 t13 t14 _ ?side1 A25.out).mono ?_); (case side1 => exact G.at hG.out (lc HB.out)); rintro e w40 ⟨v15, rfl, ho0, hb⟩; have n0_ := Aside0.mk (Kd.R_elder' (rc HO_3.out) (Kd.R_base ho0) hb); have n1_ := Aside0.mk (Kd.R_lower (Kd.R_new' ho0 (Kd.R_lt (rc HO_3.out))) (below_size (lc HB.out))); have n2_ := Aside0.mk (below_step (lc HB.out) hb); clear HO_3; clear HB; have HO_3 := n0_; have HO16 := n1_; have HB := n2_; clear n0_ n1_ n2_; (try clear hb); (try clear hb2); (try clear hk); (try clear hi); (try clear ho0); obtain ⟨Ao41, co41, eo41⟩ := Kd.R_slice HO16.out; subst eo41)))
                                      go_ret
                                      exact ⟨by first | rfl | (simp [errW_none, errW_some] <;> rfl) | (simp only [← hji2]; first | rfl | (simp [errW_none, errW_some] <;> rfl)) | (simp [*, errW_none, errW_some] <;> rfl), by exact lc HB.out⟩
                                  · rw [if_neg c26] at H
                                    have c26b0 : (t14 == 0) = false := beq_eq_false_iff_ne.mpr c26
                                    have c26b1 : (t14 != 0) = true := bne_iff_ne.mpr c26
                                    obtain rfl := Option.some.inj H
                                    have p11 : 0 ≤ (x6_1 : Int) := of_decide_eq_true (by first | (with_reducible assumption) | assumption)
                                    have q11 : x6_1 < (t1.length : Int) := of_decide_eq_true (by first | (with_reducible assumption) | assumption)
                                    obtain ⟨ad11, e11, hx11_0, hx11_1, hx11_2⟩ := at_T32 (Kd.R_reads' HO_3.out).2.2 x6_1 p11 q11
                                    cases e11
                                    replace p11 := eq_true p11
                                    replace q11 := eq_true q11
                                    go_wp2_with (first | (go_at_call 8; (with_reducible refine (lex_Tokens.calls kj13 ((a0.extract 0 ((ji2) : Int).toNat).extract (((rd_T32 t1 x6_1).f2) : Int).toNat (x7_8 : Int).toNat) t12 t13 t14 _ ?side1 A25.out).mono ?_); (case side1 => exact G.at hG.out (lc HB.out)); rintro e w42 ⟨v15, rfl, ho0, hb⟩; have n0_ := Aside0.mk (Kd.R_elder' (rc HO_3.out) (Kd.R_base ho0) hb); have n1_ := Aside0.mk (Kd.R_lower (Kd.R_new' ho0 (Kd.R_lt (rc HO_3.out))) (below_size (lc HB.out))); have n2_ := Aside0.mk (below_step (lc HB.out) hb); clear HO_3; clear HB; have HO_3 := n0_; have HO16 := n1_; have HB := n2_; clear n0_ n1_ n2_; (try clear hb); (try clear hb2); (try clear hk); (try clear hi); (try clear ho0)))
                                    repeat (go_quiet (first | (go_at_call 8; (with_reducible refine (lex_Tokens.calls kj13 ((a0.extract 0 ((ji2) : Int).toNat).extract (((rd_T32 t1 x6_1).f2) : Int).toNat (x7_8 : Int).toNat) t12 t13 t14 _ ?side1 A25.out).mono ?_); (case side1 => exact G.at hG.out (lc HB.out)); rintro e w42 ⟨v15, rfl, ho0, hb⟩; have n0_ := Aside0.mk (Kd.R_elder' (rc HO_3.out) (Kd.R_base ho0) hb); have n1_ := Aside0.mk (Kd.R_lower (Kd.R_new' ho0 (Kd.R_lt (rc HO_3.out))) (below_size (lc HB.out))); have n2_ := Aside0.mk (below_step (lc HB.out) hb); clear HO_3; clear HB; have HO_3 := n0_; have HO16 := n1_; have HB := n2_; clear n0_ n1_ n2_; (try clear hb); (try clear hb2); (try clear hk); (try clear hi); (try clear ho0))); try go_wp2_with (first | (go_at_call 8; (with_reducible refine (lex_Tokens.calls kj13 ((a0.extract 0 ((ji2) : Int).toNat).extract (((rd_T32 t1 x6_1).f2) : Int).toNat (x7_8 : Int).toNat) t12 t13 t14 _ ?side1 A25.out).mono ?_); (case side1 => exact G.at hG.out (lc HB.out)); rintro e w42 ⟨v15, rfl, ho0, hb⟩; have n0_ := Aside0.mk (Kd.R_elder' (rc HO_3.out) (Kd.R_base ho0) hb); have n1_ := Aside0.mk (Kd.R_lower (Kd.R_new' ho0 (Kd.R_lt (rc HO_3.out))) (below_size (lc HB.out))); have n2_ := Aside0.mk (below_step (lc HB.out) hb); clear HO_3; clear HB; have HO_3 := n0_; have HO16 := n1_; have HB := n2_; clear n0_ n1_ n2_; (try clear hb); (try clear hb2); (try clear hk); (try clear hi); (try clear ho0))))
                                    go_ret
                                    exact ⟨by first | rfl | (simp [errW_none, errW_some] <;> rfl) | (simp only [← hji2]; first | rfl | (simp [errW_none, errW_some] <;> rfl)) | (simp [*, errW_none, errW_some] <;> rfl), by exact lc HB.out⟩
                                · rw [if_neg c24] at H
                                  exact absurd H (by simp)
                              · rw [if_neg c23] at H
                                exact absurd H (by simp)
                            · rw [if_neg c22] at H
                              exact absurd H (by simp)
                          · rw [if_neg c21] at H
                            exact absurd H (by simp)
                        · rw [if_neg c20] at H
                          exact absurd H (by simp)
            · rw [if_neg c8] at H
              have c8b0 : decide (x6_1 < (t1.length : Int)) = false := decide_eq_false c8
              clear c8
              replace H := Option.bind_eq_some_iff.mp H
              obtain ⟨t7, A430, H⟩ := H
              replace H : (some t7) = some r := H
              have A43 := Aside0.mk A430
              clear A430
              obtain rfl := Option.some.inj H
              obtain ⟨Ao44, co44, eo44⟩ := Kd.R_slice HO_3.out
              subst eo44
              go_wp2_with (first | (go_at_call 12; (with_reducible refine (driftnetlaw20_awake.calls k1  t7 _ ?side1 A43.out).mono ?_); (case side1 => exact G.at hG.out (lc HB.out)); rintro e w45 ⟨rfl, hb⟩; have n0_ := Aside0.mk (Kd.R_below (rc HO_3.out) hb); have n1_ := Aside0.mk (below_step (lc HB.out) hb); clear HO_3; clear HB; have HO_3 := n0_; have HB := n1_; clear n0_ n1_; (try clear hb); (try clear hb2); (try clear hk); (try clear hi)))
              repeat (go_quiet (first | (go_at_call 12; (with_reducible refine (driftnetlaw20_awake.calls k1  t7 _ ?side1 A43.out).mono ?_); (case side1 => exact G.at hG.out (lc HB.out)); rintro e w45 ⟨rfl, hb⟩; have n0_ := Aside0.mk (Kd.R_below (rc HO_3.out) hb); have n1_ := Aside0.mk (below_step (lc HB.out) hb); clear HO_3; clear HB; have HO_3 := n0_; have HB := n1_; clear n0_ n1_; (try clear hb); (try clear hb2); (try clear hk); (try clear hi))); try go_wp2_with (first | (go_at_call 12; (with_reducible refine (driftnetlaw20_awake.calls k1  t7 _ ?side1 A43.out).mono ?_); (case side1 => exact G.at hG.out (lc HB.out)); rintro e w45 ⟨rfl, hb⟩; have n0_ := Aside0.mk (Kd.R_below (rc HO_3.out) hb); have n1_ := Aside0.mk (below_step (lc HB.out) hb); clear HO_3; clear HB; have HO_3 := n0_; have HB := n1_; clear n0_ n1_; (try clear hb); (try clear hb2); (try clear hk); (try clear hi))))
              go_ret
              exact ⟨by first | rfl | (simp [errW_none, errW_some] <;> rfl) | (simp only [← hji2]; first | rfl | (simp [errW_none, errW_some] <;> rfl)) | (simp [*, errW_none, errW_some] <;> rfl), by exact lc HB.out⟩
      · rw [if_neg c6] at H
        have c6b0 : (t3 == 0) = false := beq_eq_false_iff_ne.mpr c6
        have c6b1 : (t3 != 0) = true := bne_iff_ne.mpr c6
        replace H := Option.bind_eq_some_iff.mp H
        obtain ⟨t6, A460, H⟩ := H
        replace H : (some t6) = some r := H
        have A46 := Aside0.mk A460
        clear A460
        obtain rfl := Option.some.inj H
        go_enter Tryz.func4, Tryz.ntmps4
        go_wp2_with (first | (go_at_call 8; (with_reducible refine (lex_Tokens.calls k (a0.extract 0 ((ji2) : Int).toNat) t1 t2 t3 _ ?side1 A5.out).mono ?_); (case side1 => exact G.at hG.out (lc HB.out)); rintro e w47 ⟨v4, rfl, ho0, hb⟩; have n0_ := Aside0.mk (Kd.R_lower ho0 (below_size (lc HB.out))); have n1_ := Aside0.mk (below_step (lc HB.out) hb); clear HB; have HO5 := n0_; have HB := n1_; clear n0_ n1_; (try clear hb); (try clear hb2); (try clear hk); (try clear hi); (try clear ho0)) | (go_at_call 12; (with_reducible refine (driftnetlaw20_awake.calls k  t6 _ ?side1 A46.out).mono ?_); (case side1 => exact G.at hG.out (lc HB.out)); rintro e w48 ⟨rfl, hb⟩; have n0_ := Aside0.mk (Kd.R_below (rc HO5.out) hb); have n1_ := Aside0.mk (below_step (lc HB.out) hb); clear HO5; clear HB; have HO5 := n0_; have HB := n1_; clear n0_ n1_; (try clear hb); (try clear hb2); (try clear hk); (try clear hi)))
        repeat (go_quiet (first | (go_at_call 8; (with_reducible refine (lex_Tokens.calls k (a0.extract 0 ((ji2) : Int).toNat) t1 t2 t3 _ ?side1 A5.out).mono ?_); (case side1 => exact G.at hG.out (lc HB.out)); rintro e w47 ⟨v4, rfl, ho0, hb⟩; have n0_ := Aside0.mk (Kd.R_lower ho0 (below_size (lc HB.out))); have n1_ := Aside0.mk (below_step (lc HB.out) hb); clear HB; have HO5 := n0_; have HB := n1_; clear n0_ n1_; (try clear hb); (try clear hb2); (try clear hk); (try clear hi); (try clear ho0)) | (go_at_call 12; (with_reducible refine (driftnetlaw20_awake.calls k  t6 _ ?side1 A46.out).mono ?_); (case side1 => exact G.at hG.out (lc HB.out)); rintro e w48 ⟨rfl, hb⟩; have n0_ := Aside0.mk (Kd.R_below (rc HO5.out) hb); have n1_ := Aside0.mk (below_step (lc HB.out) hb); clear HO5; clear HB; have HO5 := n0_; have HB := n1_; clear n0_ n1_; (try clear hb); (try clear hb2); (try clear hk); (try clear hi))); try go_wp2_with (first | (go_at_call 8; (with_reducible refine (lex_Tokens.calls k (a0.extract 0 ((ji2) : Int).toNat) t1 t2 t3 _ ?side1 A5.out).mono ?_); (case side1 => exact G.at hG.out (lc HB.out)); rintro e w47 ⟨v4, rfl, ho0, hb⟩; have n0_ := Aside0.mk (Kd.R_lower ho0 (below_size (lc HB.out))); have n1_ := Aside0.mk (below_step (lc HB.out) hb); clear HB; have HO5 := n0_; have HB := n1_; clear n0_ n1_; (try clear hb); (try clear hb2); (try clear hk); (try clear hi); (try clear ho0)) | (go_at_call 12; (with_reducible refine (driftnetlaw20_awake.calls k  t6 _ ?side1 A46.out).mono ?_); (case side1 => exact G.at hG.out (lc HB.out)); rintro e w48 ⟨rfl, hb⟩; have n0_ := Aside0.mk (Kd.R_below (rc HO5.out) hb); have n1_ := Aside0.mk (below_step (lc HB.out) hb); clear HO5; clear HB; have HO5 := n0_; have HB := n1_; clear n0_ n1_; (try clear hb); (try clear hb2); (try clear hk); (try clear hi))))
        go_ret
        exact ⟨by first | rfl | (simp [errW_none, errW_some] <;> rfl) | (simp only [← hji2]; first | rfl | (simp [errW_none, errW_some] <;> rfl)) | (simp [*, errW_none, errW_some] <;> rfl), by exact lc HB.out⟩
    · rw [if_neg c4] at H
      exact absurd H (by simp)
  · rw [if_neg c3] at H
    exact absurd H (by simp)
/-- The one pure statement of driftnetlaw20_LexOne. -/
def driftnetlaw20_LexOne.Pure : Prop := ∀ (a0 : ByteArray), a0.size ≤ 140737488351232 → ∃ k, driftnetlaw20_LexOne.f k a0 = some true
theorem driftnetlaw20_LexOne.walk (P : driftnetlaw20_LexOne.Pure) (a0 : ByteArray) (w : World) (hG : Aside0 (G w)) (w0 : a0.size ≤ 140737488351232) :
    Calls Tryz.prog 4 #[.string a0] w fun e w' => e = .returned (.bool true) ∧ Below w.heap.size w w' := by
  obtain ⟨k, h⟩ := P a0 w0
  refine (driftnetlaw20_LexOne.calls k a0 true w hG h).mono ?_
  rintro e w' ⟨rfl, hd⟩
  exact ⟨rfl, hd⟩
end Go.Proofs.YtioofhilohmfbaaGreatDoor.P
end
section
namespace Go.Proofs.YtioofhilohmfbaaGreatDoor.lexOne
open Go Go.ChangeShapes Go.WideShapes Go.ChangeAt Go.RowKit
open Go.ChangeMaps (open_string shut_string)
set_option linter.unusedVariables false
theorem own : ownKnob Tryz.prog.godebug = none := by kernel_rfl
set_option maxRecDepth 100000 in
theorem lifted (PU : P.driftnetlaw20_LexOne.Pure) (os : Os) (started : os.Started) (H : Type) (enc : TypeId × Value → H) :
    ReturnsInHanded {} Tryz.checked os 4 .any (fun w args => (Rows.lexOneSpec.pre enc Tryz.prog Tryz.f4 Rows.lexOneRow.domain false w args ∧ laidMetH Tryz.prog Rows.lexOneRow.laid w) ∧ sizedMet enc Tryz.prog Tryz.f4 (OpenSpec.ofChange Rows.lexOneSpec) false w args)
      (Rows.lexOneSpec.post enc Tryz.prog Tryz.f4 false true false false) := by
  refine returnsInHanded_of_change_and (C := Tryz.checked) (X := fun w _ => laidMetH Tryz.prog laidL w) (fun _ _ _ hh h => h.of_heap hh) own started (by kernel_rfl) Tryz.func4
    (ChangeSpec.witness_shaped (enc := enc) (C := Tryz.checked) (os := os) (X := fun w _ => laidMetH Tryz.prog laidL w) false (world0 os) #[.string ⟨#[]⟩] 8 (world0_os _)
      (World.shaped_of_ZipB (by kernel_rfl) (by kernel_rfl)) (by kernel_rfl) (by kernel_rfl) (by kernel_rfl) (world0_met os _)) ?_
  intro W base args ds gs before hval0 hW hcnd hsz0 hL _
  have hsz : (DataW.weightsEach Tryz.prog (Tryz.f4.params.toList ++ Rows.lexOneSpec.plain.varTypes Tryz.prog) (ds ++ gs)).all (· ≤ reachBytes) = true := hsz0
  have hval : ∀ (j : Nat) t v, Tryz.f4.params[j]? = some t → args[j]? = some v → Value.okWide Tryz.prog W .any base t v := hval0
  have hW' := hW
  obtain ⟨p, q, hA0, hV, rfl, hfz, hnd⟩ := hW
  have hA : DataW.TrodAll enc Tryz.prog W 0 (fun _ => true) true Tryz.f4.params.toList args.toList ds p := hA0
  rw [Tryz.params4] at hA hval hsz
  obtain ⟨v0, vs0, d0, ds0, p0, q0, hargs, rfl, rfl, h0, r0⟩ := trodAll_cons hA
  obtain ⟨rfl, rfl, rfl⟩ := trodAll_nil r0
  obtain rfl : args = #[v0] := by cases args; simp_all
  obtain ⟨rfl, rfl⟩ := trodVars_none hV
  obtain ⟨a0, rfl, rfl, rfl, y0⟩ := open_string Tryz.underlying9 (hval 0 9 v0 rfl rfl) h0
  have w0 : a0.size ≤ 140737488351232 := by
    have z := sized_string hsz (j := 0) (t := 9) rfl rfl
    rw [Array.length_toList] at z
    exact z
  clear hA0 hval0 hsz0 hsz
  refine (P.driftnetlaw20_LexOne.walk PU a0 W ⟨G_of_laid hL⟩ w0).mono fun e W' ⟨he, bel⟩ => ?_
  subst he
  exact ⟨_, rfl, _, _, _, [], _, [], hW', trodAll_mk1 (shut_bool Tryz.underlying4 _), (trodAll_cons_mk (shut_string Tryz.underlying9 y0) trodAll_mk0), rfl, bel.frame _, fun h => by cases h⟩
theorem over (PU : P.driftnetlaw20_LexOne.Pure) : Rows.LexOneSaid :=
  OpenClaim.holds_of_wide 4 Tryz.f4 rfl rfl rfl rfl rfl rfl rfl ⟨rfl, rfl, rfl, rfl, rfl⟩ rfl rfl rfl rfl rfl (by kernel_rfl) Tryz.func4 (by kernel_rfl)
    (of_decide_eq_true (by kernel_rfl)) (by unfold Func.isWrapper; first | (rw [if_pos (by decide +kernel)]; kernel_rfl) | (rw [if_neg (by decide +kernel)]; exact ⟨rfl, rfl⟩))
    (fun os started H enc _ => lifted PU os started H enc)
theorem card_of (PU : P.driftnetlaw20_LexOne.Pure) : Rows.LexOneCardSaid :=
  Claim7.holds_tied_plain_at .later [] Rows.lexOneCard.laidKinds true Rows.lexOneCard.stood.harness Rows.lexOneCard.stood.looks (over PU) (fun _ h => by cases h) (by kernel_rfl) (fun _ h => by cases h) lexOne_row_tie rfl ⟨rfl, rfl⟩ (by kernel_rfl) rfl
    (fun f fn hf hfn => by
      obtain rfl : f = 4 := Option.some.inj ((show Tryz.prog.funcNamed "driftnet/driftnetlaw20.LexOne" = some 4 by kernel_rfl).symm.trans hf) |>.symm
      obtain rfl : fn = Tryz.f4 := (Option.some.inj (Tryz.func4.symm.trans hfn)).symm
      exact ⟨by kernel_rfl, fun j t ht => by
        rw [Tryz.params4] at ht
        have hm : t ∈ [9] := by simpa using Array.mem_of_getElem? ht
        have hall : ([9].all fun u => !Tryz.prog.wantsStandIn u) = true := by kernel_rfl
        exact (show Tryz.prog.wantsStandIn t = false by simpa using List.all_eq_true.1 hall t hm)⟩)
    (by kernel_rfl)
end Go.Proofs.YtioofhilohmfbaaGreatDoor.lexOne
end
section
set_option linter.unusedVariables false
set_option linter.unusedSimpArgs false
namespace Go.Proofs.YtioofhilohmfbaaGreatDoor
open Go Go.RowKit Go.Lib Go.Proofs.YtioofhilohmfbaaGreatDoorW.PrintWords Go.Proofs.YtioofhilohmfbaaGreatDoorW.PrintLast Go.Proofs.YtioofhilohmfbaaGreatDoorW.PrintMore Go.Proofs.YtioofhilohmfbaaGreatDoor.P
/-- A token: its kind, its text, the byte at which it begins. -/
abbrev Tk := Int × ByteArray × Nat
def toksP : Nat → Nat → List UInt8 → Nat ⊕ List Tk
  | 0, a, _ => .inl a
  | f + 1, a, l =>
    if l.drop (runN blankB l) = [] then .inr []
    else if (firstP (l.drop (runN blankB l))).2.2.2 = true then
      match toksP f (a + runN blankB l + (firstP (l.drop (runN blankB l))).2.2.1) ((l.drop (runN blankB l)).drop (firstP (l.drop (runN blankB l))).2.2.1) with
      | .inl b => .inl b
      | .inr ts => .inr (((firstP (l.drop (runN blankB l))).1, (firstP (l.drop (runN blankB l))).2.1, a + runN blankB l) :: ts)
    else .inl (a + runN blankB l)
/-- From a byte on these tokens stand there, and blanks between them. -/
def CutP (s : List UInt8) : Nat → List Tk → Prop
  | a, [] => ∀ c ∈ s.drop a, blankB c = true
  | a, t :: ts => a ≤ t.2.2 ∧ t.2.2 < s.length ∧ (∀ c ∈ (s.drop a).take (t.2.2 - a), blankB c = true) ∧ ∃ n, firstP (s.drop t.2.2) = (t.1, t.2.1, n, true) ∧ CutP s (t.2.2 + n) ts
theorem runN_eq_len {p : UInt8 → Bool} {l : List UInt8} (h : ∀ c ∈ l, p c = true) : runN p l = l.length := by
  induction l with
  | nil => rfl
  | cons c t ih => rw [runN, if_pos (h c (by simp)), ih (fun d hd => h d (by simp [hd])), List.length_cons]; omega
theorem runN_at {p : UInt8 → Bool} {l : List UInt8} {n : Nat} (h : ∀ c ∈ l.take n, p c = true) (hn : n < l.length) (hs : p l[n] = false) : runN p l = n := by
  have e : l = l.take n ++ l[n] :: l.drop (n + 1) := by rw [← List.drop_eq_getElem_cons hn, List.take_append_drop]
  rw [e, runN_blank p _ _ _ h hs, List.length_take]
  omega
theorem first_nonblank {l : List UInt8} {k : Int} {x : ByteArray} {n : Nat} (h : firstP l = (k, x, n, true)) : ∃ c t, l = c :: t ∧ blankB c = false := by
  cases l with
  | nil =>
    unfold firstP at h
    rw [if_pos rfl] at h
    cases h
  | cons c t =>
    refine ⟨c, t, rfl, ?_⟩
    cases hb : blankB c with
    | false => rfl
    | true =>
      exfalso
      have hc : ∀ c : Fin 256, blankB (UInt8.ofNat c.val) = true → wordB (UInt8.ofNat c.val) = false ∧ digL (UInt8.ofNat c.val) = false ∧ UInt8.ofNat c.val ≠ 34 ∧ UInt8.ofNat c.val ≠ 96 ∧ signsL.all (fun x => x.data.toList.head? != some (UInt8.ofNat c.val)) = true := by decide +kernel
      have := hc ⟨c.toNat, c.toNat_lt⟩
      simp only [UInt8.ofNat_toNat] at this
      obtain ⟨h1, h2, h3, h4, h5⟩ := this hb
      unfold firstP at h
      rw [if_neg (List.cons_ne_nil _ _)] at h
      rw [if_neg (show ¬ wordB ((c :: t).headD 0) = true by show ¬ wordB c = true; rw [h1]; exact Bool.false_ne_true), if_neg (show ¬ digL ((c :: t).headD 0) = true by show ¬ digL c = true; rw [h2]; exact Bool.false_ne_true), if_neg (show ¬ ((c :: t).headD 0 = 34 ∨ (c :: t).headD 0 = 96) from fun e => e.elim (fun e => h3 e) (fun e => h4 e))] at h
      cases hs : signP (c :: t) with
      | none => rw [hs] at h; cases h
      | some y =>
        obtain ⟨g1, ⟨r, g2⟩, _⟩ := sign_split hs
        have g3 := (signs_len y g1).1
        rw [Lib.size_eq] at g3
        have g4 := List.all_eq_true.1 h5 y g1
        cases hy : y.data.toList with
        | nil => rw [hy] at g3; simp at g3
        | cons d u =>
          rw [hy] at g2 g4
          simp only [List.cons_append, List.cons.injEq] at g2
          rw [g2.1] at g4
          simp at g4
theorem toks_cut (s : List UInt8) : ∀ (f a : Nat) (ts : List Tk), a ≤ s.length → toksP f a (s.drop a) = .inr ts → CutP s a ts
  | 0, a, ts, ha, h => by cases h
  | f + 1, a, ts, ha, h => by
    obtain ⟨b, hb⟩ : ∃ b, runN blankB (s.drop a) = b := ⟨_, rfl⟩
    have hble := runN_le blankB (s.drop a)
    have hball := runN_in blankB (s.drop a)
    rw [toksP] at h
    rw [hb] at h hble hball
    rw [List.length_drop] at hble
    rw [List.drop_drop] at h
    obtain ⟨⟨k, x, n, ok⟩, hf⟩ : ∃ v, firstP (s.drop (a + b)) = v := ⟨_, rfl⟩
    rw [hf] at h
    by_cases he : s.drop (a + b) = []
    · rw [if_pos he] at h
      cases h
      have hz : s.length ≤ a + b := List.drop_eq_nil_iff.1 he
      intro c hc
      refine hball c ?_
      rw [List.take_of_length_le (by rw [List.length_drop]; omega)]
      exact hc
    · rw [if_neg he] at h
      have hz : a + b < s.length := Nat.lt_of_not_le fun h => he (List.drop_eq_nil_iff.2 h)
      cases ok with
      | false => simp at h
      | true =>
        simp only [if_true] at h
        rw [List.drop_drop] at h
        have hok := firstP_ok hf
        have hle := hok.le
        rw [List.length_drop] at hle
        cases hr : toksP f (a + b + n) (s.drop (a + b + n)) with
        | inl c => rw [hr] at h; cases h
        | inr us =>
          rw [hr] at h
          cases h
          refine ⟨Nat.le_add_right _ _, hz, ?_, n, hf, toks_cut s f (a + b + n) us (by omega) hr⟩
          rw [Nat.add_sub_cancel_left]
          exact hball
theorem cut_toks (s : List UInt8) : ∀ (ts : List Tk) (f a : Nat), a ≤ s.length → s.length - a < f → CutP s a ts → toksP f a (s.drop a) = .inr ts
  | _, 0, a, ha, hf, h => by omega
  | [], f + 1, a, ha, hf, h => by
    have hr : runN blankB (s.drop a) = (s.drop a).length := runN_eq_len h
    rw [toksP, hr, List.drop_length, if_pos rfl]
  | t :: ts, f + 1, a, ha, hf, h => by
    obtain ⟨k, x, p⟩ := t
    obtain ⟨h1, h2, h3, n, h4, h5⟩ := h
    simp only at h1 h2 h3 h4 h5
    have hok := firstP_ok h4
    have hpos := hok.pos
    have hle := hok.le
    rw [List.length_drop] at hle
    obtain ⟨c, t, he, hb⟩ := first_nonblank h4
    have hlt : p - a < (s.drop a).length := by rw [List.length_drop]; omega
    have hg : (s.drop a)[p - a] = c := by
      have e2 : s[p]? = some c := by
        have : (s.drop p)[0]? = some c := by rw [he]; rfl
        rw [List.getElem?_drop] at this
        exact this
      have e3 : (s.drop a)[p - a]? = some c := by rw [List.getElem?_drop, show a + (p - a) = p by omega]; exact e2
      rw [List.getElem?_eq_getElem hlt] at e3
      exact Option.some.inj e3
    have hr : runN blankB (s.drop a) = p - a := runN_at h3 hlt (by rw [hg]; exact hb)
    rw [toksP, hr, List.drop_drop, show a + (p - a) = p by omega, h4, if_neg (by rw [he]; exact List.cons_ne_nil _ _)]
    simp only [if_true]
    rw [List.drop_drop, cut_toks s ts f (p + n) (by omega) (by omega) h5]
/-- Where what follows a list of tokens begins. -/
def endP (s : List UInt8) : List Tk → Nat
  | [] => s.length
  | t :: _ => t.2.2
theorem cut_ahead {s : List UInt8} {a : Nat} {ts : List Tk} (ha : a ≤ s.length) (h : CutP s a ts) : a ≤ endP s ts ∧ endP s ts ≤ s.length ∧ ∀ c ∈ (s.drop a).take (endP s ts - a), blankB c = true := by
  cases ts with
  | nil =>
    refine ⟨ha, Nat.le_refl _, fun c hc => h c ?_⟩
    exact List.mem_of_mem_take hc
  | cons t ts => exact ⟨h.1, Nat.le_of_lt h.2.1, h.2.2.1⟩
/-- A token, and what stands behind it up to the next. -/
theorem cut_one {s : List UInt8} {a : Nat} {t : Tk} {ts : List Tk} (h : CutP s a (t :: ts)) : ∃ n, TokOk (s.drop t.2.2) t.1 t.2.1 n ∧ firstP (s.drop t.2.2) = (t.1, t.2.1, n, true) ∧ t.2.2 + n ≤ endP s ts ∧ endP s ts ≤ s.length ∧ (∀ c ∈ ((s.drop t.2.2).take (endP s ts - t.2.2)).drop n, blankB c = true) ∧ CutP s (t.2.2 + n) ts := by
  obtain ⟨h1, h2, h3, n, h4, h5⟩ := h
  have hok := firstP_ok h4
  have hle := hok.le
  rw [List.length_drop] at hle
  obtain ⟨g1, g2, g3⟩ := cut_ahead (by omega) h5
  refine ⟨n, hok, h4, g1, g2, fun c hc => g3 c ?_, h5⟩
  rw [List.drop_take, List.drop_drop] at hc
  rw [show endP s ts - (t.2.2 + n) = endP s ts - t.2.2 - n by omega]
  exact hc
theorem cut_drop {s : List UInt8} : ∀ (ts : List Tk) (a i : Nat), a ≤ s.length → CutP s a ts → i ≤ ts.length → ∃ a', a' ≤ s.length ∧ CutP s a' (ts.drop i)
  | ts, a, 0, ha, h, hi => ⟨a, ha, h⟩
  | [], a, i + 1, ha, h, hi => by simp at hi
  | t :: ts, a, i + 1, ha, h, hi => by
    obtain ⟨n, h1, h2, h3, h4, h5, h6⟩ := cut_one h
    rw [List.drop_succ_cons]
    exact cut_drop ts (t.2.2 + n) i (by omega) h6 (by simpa using hi)
/-- Cut by itself it is the same. -/
theorem cut_alone {s : List UInt8} {a : Nat} {t : Tk} {ts : List Tk} (h : CutP s a (t :: ts)) : CutP ((s.drop t.2.2).take (endP s ts - t.2.2)) 0 [(t.1, t.2.1, 0)] := by
  obtain ⟨n, h1, h2, h3, h4, h5, h6⟩ := cut_one h
  have hpos := h1.pos
  refine ⟨Nat.le_refl _, ?_, fun c hc => ?_, n, ?_, ?_⟩
  · show 0 < _
    rw [List.length_take, List.length_drop]
    omega
  · rw [show (0 : Nat) - 0 = 0 from rfl, List.take_zero] at hc
    cases hc
  · rw [List.drop_zero]
    exact firstP_take h2 (by omega) (by omega)
  · show ∀ c ∈ _, _
    rw [Nat.zero_add]
    exact h5
/-- A token that is written: blanks ahead, its bytes, its kind, its text. -/
structure Item where
  b : List UInt8
  x : List UInt8
  k : Int
  t : ByteArray
structure ItemOk (it : Item) : Prop where
  b : ∀ c ∈ it.b, blankB c = true
  x : it.x ≠ []
  first : ∀ c r, blankB c = true → firstP (it.x ++ c :: r) = (it.k, it.t, it.x.length, true)
end Go.Proofs.YtioofhilohmfbaaGreatDoor
end
section
set_option linter.unusedVariables false
set_option linter.unusedSimpArgs false
namespace Go.Proofs.YtioofhilohmfbaaGreatDoor
open Go Go.RowKit Go.Lib Go.Proofs.YtioofhilohmfbaaGreatDoorW.PrintWords Go.Proofs.YtioofhilohmfbaaGreatDoorW.PrintLast Go.Proofs.YtioofhilohmfbaaGreatDoorW.PrintMore Go.Proofs.YtioofhilohmfbaaGreatDoor.P
def tkS (t : Tk) : S32 := ⟨t.1, t.2.1, (t.2.2 : Int)⟩
theorem bx_extract (s : ByteArray) (a b : Nat) : (s.extract a b).data.toList = (s.data.toList.take b).drop a := by
  rw [ByteArray.data_extract, Array.toList_extract, List.extract_eq_take_drop, List.drop_take]
theorem bx_drop (s : ByteArray) (a : Nat) : (s.extract a s.size).data.toList = s.data.toList.drop a := by
  rw [bx_extract, Lib.size_eq, List.take_length]
theorem bx_size_drop (s : ByteArray) (a : Nat) : (s.extract a s.size).size = s.size - a := by
  rw [Lib.size_eq, bx_drop, List.length_drop, ← Lib.size_eq]
theorem blank_at (s : ByteArray) (a : Nat) (hs : s.size ≤ 4096) : P.lex_runBlank.f (s.extract a s.size) = some ((runN blankB (s.data.toList.drop a) : Nat) : Int) := by
  unfold P.lex_runBlank.f
  rw [if_pos (by rw [bx_size_drop]; omega), bx_drop]
theorem first_at (s : ByteArray) (a : Nat) (hs : s.size ≤ 4096) (ha : a < s.size) {v : Int × ByteArray × Nat × Bool} (hv : firstP (s.data.toList.drop a) = v) : P.lex_first.f (s.extract a s.size) = some (v.1, v.2.1, 0, (v.2.2.1 : Int), v.2.2.2) := by
  unfold P.lex_first.f
  rw [if_pos (by rw [bx_size_drop]; omega), bx_drop, hv]
theorem wr64 (a : Int) (h0 : -9223372036854775808 ≤ a) (h1 : a < 9223372036854775808) : wrap64 a = a := by unfold wrap64; omega
theorem w64n (a b : Nat) (h : a + b ≤ 20000) : wrap64 ((a : Int) + (b : Int)) = ((a + b : Nat) : Int) := by rw [wr64 _ (by omega) (by omega)]; omega
theorem tokens_l0 (s : ByteArray) (hs : s.size ≤ 4096) : ∀ (f a : Nat) (acc : List S32), a ≤ s.size → s.size - a < f → acc.length + (s.size - a) ≤ 5000 →
    P.lex_Tokens.l0 f s acc ((a + runN blankB (s.data.toList.drop a) : Nat) : Int) = match toksP f a (s.data.toList.drop a) with | .inl b => some ([], (b : Int), 200) | .inr ts => some (acc ++ ts.map tkS, 0, 0)
  | 0, a, acc, ha, hf, hc => by omega
  | f + 1, a, acc, ha, hf, hc => by
    obtain ⟨b, hb⟩ : ∃ b, runN blankB (s.data.toList.drop a) = b := ⟨_, rfl⟩
    have hble := runN_le blankB (s.data.toList.drop a)
    rw [hb, List.length_drop, ← Lib.size_eq] at hble
    rw [hb, toksP, hb, P.lex_Tokens.l0, List.drop_drop]
    by_cases he : a + b < s.size
    · have hne : s.data.toList.drop (a + b) ≠ [] := fun h => by
        have := List.drop_eq_nil_iff.1 h
        rw [← Lib.size_eq] at this
        omega
      obtain ⟨⟨k, x, n, ok⟩, hv⟩ : ∃ v, firstP (s.data.toList.drop (a + b)) = v := ⟨_, rfl⟩
      rw [if_pos (by omega), if_pos (by omega), if_pos (by omega), Int.toNat_natCast, first_at s (a + b) hs he hv, if_neg hne, hv]
      simp only [Option.bind_some]
      cases ok with
      | false => rfl
      | true =>
        have hok := firstP_ok hv
        have hpos := hok.pos
        have hle := hok.le
        rw [List.length_drop, ← Lib.size_eq] at hle
        simp only [if_true]
        have hrle := runN_le blankB (s.data.toList.drop (a + b + n))
        rw [List.length_drop, ← Lib.size_eq] at hrle
        have g1 : acc.length < 4398046511104 := by omega
        have g2 : (0 : Int) ≤ ((a + b + n : Nat) : Int) := by omega
        have g3 : ((a + b + n : Nat) : Int) ≤ (s.size : Int) := by omega
        have g4 : a + b + n ≤ 20000 := by omega
        have g5 : a + b + n + runN blankB (s.data.toList.drop (a + b + n)) ≤ 20000 := by omega
        have hIH := tokens_l0 s hs f (a + b + n) (acc ++ [(⟨k, x, ((a + b : Nat) : Int)⟩ : S32)]) (by omega) (by omega) (by rw [List.length_append]; simp only [List.length_cons, List.length_nil]; omega)
        have hw : wrap64 (((a + b : Nat) : Int) + (n : Int)) = ((a + b + n : Nat) : Int) := w64n (a + b) n g4
        have hw2 : wrap64 (((a + b + n : Nat) : Int) + ((runN blankB (s.data.toList.drop (a + b + n)) : Nat) : Int)) = ((a + b + n + runN blankB (s.data.toList.drop (a + b + n)) : Nat) : Int) := w64n (a + b + n) (runN blankB (s.data.toList.drop (a + b + n))) g5
        rw [hw]
        refine (if_pos g1).trans ((if_pos g2).trans ((if_pos g3).trans ?_))
        rw [Int.toNat_natCast, blank_at s _ hs]
        simp only [Option.bind_some]
        rw [hw2, hIH, List.drop_drop]
        cases toksP f (a + b + n) (s.data.toList.drop (a + b + n)) with
        | inl c => rfl
        | inr ts => simp [tkS]
    · have hz : s.data.toList.drop (a + b) = [] := List.drop_eq_nil_iff.2 (by rw [← Lib.size_eq]; omega)
      rw [if_neg (by omega), if_pos hz]
      simp
theorem tokens_f (s : ByteArray) (hs : s.size ≤ 4096) (k : Nat) (hk : s.size < k) : P.lex_Tokens.f k s = match toksP k 0 s.data.toList with | .inl b => some ([], (b : Int), 200) | .inr ts => some (ts.map tkS, 0, 0) := by
  unfold P.lex_Tokens.f
  rw [if_neg (by omega)]
  have h0 := blank_at s 0 hs
  rw [show s.extract 0 s.size = s from ByteArray.extract_zero_size, List.drop_zero] at h0
  have h1 := tokens_l0 s hs k 0 [] (Nat.zero_le _) (by omega) (by simp; omega)
  rw [List.drop_zero, Nat.zero_add] at h1
  rw [h0]
  simp only [Option.bind_some]
  rw [h1]
  cases toksP k 0 s.data.toList with
  | inl b => rfl
  | inr ts => rfl
end Go.Proofs.YtioofhilohmfbaaGreatDoor
end
section
set_option linter.unusedVariables false
set_option linter.unusedSimpArgs false
namespace Go.Proofs.YtioofhilohmfbaaGreatDoor
open Go Go.RowKit Go.Lib Go.Proofs.YtioofhilohmfbaaGreatDoorW.PrintWords Go.Proofs.YtioofhilohmfbaaGreatDoorW.PrintLast Go.Proofs.YtioofhilohmfbaaGreatDoorW.PrintMore Go.Proofs.YtioofhilohmfbaaGreatDoor.P
theorem blank_all256 : ∀ c : Fin 256, ([32, 9, 10, 13] : List UInt8).contains (UInt8.ofNat c.val) = blankB (UInt8.ofNat c.val) := by decide +kernel
theorem blank_contains (c : UInt8) : ([32, 9, 10, 13] : List UInt8).contains c = blankB c := by
  have := blank_all256 ⟨c.toNat, c.toNat_lt⟩
  simp only [UInt8.ofNat_toNat] at this
  exact this
theorem cutOk_blanks : cutOk (⟨#[32, 9, 10, 13]⟩ : ByteArray) := by decide +kernel
theorem cut_len {s : List UInt8} : ∀ (ts : List Tk) (a : Nat), a ≤ s.length → CutP s a ts → ts.length ≤ s.length - a
  | [], a, ha, h => Nat.zero_le _
  | t :: ts, a, ha, h => by
    obtain ⟨n, h1, h2, h3, h4, h5, h6⟩ := cut_one h
    have hp := h1.pos
    have h7 := cut_len ts (t.2.2 + n) (by omega) h6
    have h8 := h.1
    have h9 := h.2.1
    rw [List.length_cons]
    omega
theorem slice_list (s : ByteArray) (a b : Nat) : (s.extract a b).data.toList = (s.data.toList.drop a).take (b - a) := by rw [bx_extract, List.drop_take]
/-- What is left of a token's place when the blanks behind it are gone. -/
theorem own_of {s : ByteArray} {a : Nat} {t : Tk} {ts : List Tk} (hs : s.size ≤ 4096) (h : CutP s.data.toList a (t :: ts)) : ∃ n, TokOk (s.data.toList.drop t.2.2) t.1 t.2.1 n ∧ t.2.2 + n ≤ endP s.data.toList ts ∧ endP s.data.toList ts ≤ s.size ∧ P.strings_TrimRight.f (s.extract t.2.2 (endP s.data.toList ts)) (⟨#[32, 9, 10, 13]⟩ : ByteArray) = some (mkB ((s.data.toList.drop t.2.2).take n)) := by
  obtain ⟨n, h1, h2, h3, h4, h5, h6⟩ := cut_one h
  refine ⟨n, h1, h3, by rw [Lib.size_eq]; exact h4, ?_⟩
  unfold P.strings_TrimRight.f
  rw [if_pos ⟨by rw [ByteArray.size_extract]; omega, cutOk_blanks⟩]
  have e : trimRightS ((s.data.toList.drop t.2.2).take (endP s.data.toList ts - t.2.2)) [32, 9, 10, 13] = ((s.data.toList.drop t.2.2).take (endP s.data.toList ts - t.2.2)).take n := by
    refine trimRightS_take _ _ n ?_ (fun j b hj hb => ?_) (fun b hp hb => ?_)
    · rw [List.length_take, List.length_drop]; omega
    · rw [blank_contains]
      refine h5 b ?_
      have hb2 : (((s.data.toList.drop t.2.2).take (endP s.data.toList ts - t.2.2)).drop n)[j - n]? = some b := by
        rw [List.getElem?_drop, show n + (j - n) = j by omega]
        exact hb
      exact List.mem_of_getElem? hb2
    · rw [blank_contains]
      refine h1.last b ?_
      rw [List.getElem?_take_of_lt (by omega)] at hb
      exact hb
  rw [slice_list]
  rw [show (⟨#[32, 9, 10, 13]⟩ : ByteArray).data.toList = [32, 9, 10, 13] from rfl, e, List.take_take, Nat.min_eq_left (by omega)]
theorem rd_tk (ts : List Tk) (i : Nat) (t : Tk) (h : ts[i]? = some t) : rd_T32 (ts.map tkS) (i : Int) = tkS t := by
  unfold rd_T32
  rw [Int.toNat_natCast, List.getD_eq_getElem?_getD, List.getElem?_map, h]
  rfl
end Go.Proofs.YtioofhilohmfbaaGreatDoor
end
section
set_option linter.unusedVariables false
set_option linter.unusedSimpArgs false
namespace Go.Proofs.YtioofhilohmfbaaGreatDoor
open Go Go.RowKit Go.Lib Go.Proofs.YtioofhilohmfbaaGreatDoorW.PrintWords Go.Proofs.YtioofhilohmfbaaGreatDoorW.PrintLast Go.Proofs.YtioofhilohmfbaaGreatDoorW.PrintMore Go.Proofs.YtioofhilohmfbaaGreatDoor.P
theorem one_alone {s : ByteArray} {a : Nat} {t : Tk} {ts : List Tk} (hs : s.size ≤ 4096) (h : CutP s.data.toList a (t :: ts)) (k : Nat) (hk : 4096 < k) : P.lex_Tokens.f k (s.extract t.2.2 (endP s.data.toList ts)) = some ([(⟨t.1, t.2.1, 0⟩ : S32)], 0, 0) := by
  have hsz : (s.extract t.2.2 (endP s.data.toList ts)).size ≤ 4096 := by rw [ByteArray.size_extract]; omega
  have hc := cut_alone h
  rw [← slice_list] at hc
  have ht := cut_toks (s.extract t.2.2 (endP s.data.toList ts)).data.toList _ k 0 (Nat.zero_le _) (by rw [← Lib.size_eq]; omega) hc
  rw [List.drop_zero] at ht
  rw [tokens_f _ hsz k (by omega), ht]
  rfl
theorem one_l0 (s : ByteArray) (hs : s.size ≤ 4096) (ts : List Tk) (hc : CutP s.data.toList 0 ts) (K : Nat) (hA : ∀ k, K ≤ k → P.driftnetlaw20_awake.f k = some true) : ∀ (d i k : Nat), i + d = ts.length → 3 * d + K + 5000 < k → P.driftnetlaw20_LexOne.l0 k s (ts.map tkS) (i : Int) = some true
  | d, i, 0, hi, hk => by omega
  | 0, i, k + 1, hi, hk => by
    have hml : ((ts.map tkS).length : Int) = (ts.length : Int) := by rw [List.length_map]
    have g1 : ¬ ((i : Int) < (ts.length : Int)) := by omega
    rw [P.driftnetlaw20_LexOne.l0, hml]
    refine (if_neg g1).trans ?_
    rw [hA k (by omega)]
    rfl
  | d + 1, i, 1, hi, hk => by omega
  | d + 1, i, 2, hi, hk => by omega
  | d + 1, i, k + 3, hi, hk => by
    obtain ⟨t, ht⟩ : ∃ t, ts[i]? = some t := ⟨_, List.getElem?_eq_getElem (by omega)⟩
    have hd : ts.drop i = t :: ts.drop (i + 1) := by
      rw [List.getElem?_eq_some_iff] at ht
      obtain ⟨h, e⟩ := ht
      rw [← e, List.drop_eq_getElem_cons h]
    obtain ⟨a', ha', hcut⟩ := cut_drop ts 0 i (Nat.zero_le _) hc (by omega)
    rw [hd] at hcut
    obtain ⟨n, hok, hle, hes, hown⟩ := own_of hs hcut
    have hpos := hok.pos
    have hlen := cut_len ts 0 (Nat.zero_le _) hc
    rw [← Lib.size_eq] at hlen
    have hIH := one_l0 s hs ts hc K hA d (i + 1) k (by omega) (by omega)
    have hal := one_alone hs hcut k (by omega)
    have hend : (if ((i + 1 : Nat) : Int) < (ts.length : Int) then (if (0 : Int) ≤ ((i + 1 : Nat) : Int) then P.driftnetlaw20_LexOne.j1 (k + 2) s (ts.map tkS) (i : Int) (rd_T32 (ts.map tkS) ((i + 1 : Nat) : Int)).f2 else none) else P.driftnetlaw20_LexOne.j1 (k + 2) s (ts.map tkS) (i : Int) (s.size : Int)) = P.driftnetlaw20_LexOne.j1 (k + 2) s (ts.map tkS) (i : Int) ((endP s.data.toList (ts.drop (i + 1)) : Nat) : Int) := by
      by_cases h : i + 1 < ts.length
      · obtain ⟨u, hu⟩ : ∃ u, ts[i + 1]? = some u := ⟨_, List.getElem?_eq_getElem h⟩
        have hd2 : ts.drop (i + 1) = u :: ts.drop (i + 1 + 1) := by
          rw [List.getElem?_eq_some_iff] at hu
          obtain ⟨h, e⟩ := hu
          rw [← e, List.drop_eq_getElem_cons h]
        refine (if_pos (by omega)).trans ((if_pos (by omega)).trans ?_)
        rw [rd_tk ts (i + 1) u hu, hd2]
        rfl
      · refine (if_neg (by omega)).trans ?_
        rw [List.drop_eq_nil_of_le (by omega)]
        show _ = P.driftnetlaw20_LexOne.j1 (k + 2) s (ts.map tkS) (i : Int) ((s.data.toList.length : Nat) : Int)
        rw [← Lib.size_eq]
    obtain ⟨e, hee⟩ : ∃ e, endP s.data.toList (ts.drop (i + 1)) = e := ⟨_, rfl⟩
    rw [hee] at hle hes hown hal hend
    obtain ⟨kk, x, p⟩ := t
    simp only at hle hok hown hpos hal
    have hr : rd_T32 (ts.map tkS) (i : Int) = ⟨kk, x, (p : Int)⟩ := rd_tk ts i _ ht
    have hml : ((ts.map tkS).length : Int) = (ts.length : Int) := by rw [List.length_map]
    have g0 : (i : Int) < (ts.length : Int) := by omega
    have g2 : (0 : Int) ≤ (i : Int) := by omega
    have g4 : ¬ ((p : Int) < 0) := by omega
    have g5 : ¬ ((p : Int) > (e : Int)) := by omega
    have g6 : ¬ ((e : Int) > (s.size : Int)) := by omega
    have g7 : (0 : Int) ≤ (p : Int) := by omega
    have g8 : (p : Int) ≤ (e : Int) := by omega
    have g9 : (e : Int) ≤ (s.size : Int) := by omega
    have gb : i + 1 ≤ 20000 := by omega
    have hw : wrap64 ((i : Int) + 1) = ((i + 1 : Nat) : Int) := w64n i 1 gb
    rw [P.driftnetlaw20_LexOne.l0, hml]
    rw [hw]
    refine (if_pos g0).trans (hend.trans ?_)
    clear hend
    rw [P.driftnetlaw20_LexOne.j1, hml, hr]
    refine (if_pos g2).trans ((if_pos g0).trans ((if_neg g4).trans ((if_neg g5).trans ?_)))
    rw [decide_eq_false g6, P.driftnetlaw20_LexOne.j2, hml, hr]
    refine (if_neg Bool.false_ne_true).trans ((if_pos g2).trans ((if_pos g0).trans ((if_pos g7).trans ((if_pos g8).trans ((if_pos g9).trans ?_)))))
    rw [Int.toNat_natCast, Int.toNat_natCast, hal]
    simp only [Option.bind_some]
    refine (if_pos trivial).trans ((if_pos (by rfl)).trans ((if_pos (show (0 : Int) < ((1 : Nat) : Int) by decide)).trans ((if_pos (by rfl)).trans ((if_pos (by rfl)).trans ((if_pos (by rfl)).trans ?_)))))
    rw [hw]
    exact hIH
theorem one_true (s : ByteArray) (K : Nat) (hA : ∀ k, K ≤ k → P.driftnetlaw20_awake.f k = some true) : P.driftnetlaw20_LexOne.f (K + 30000) s = some true := by
  obtain ⟨u, hu⟩ : ∃ u, s.extract 0 (mn (s.size : Int) 200).toNat = u := ⟨_, rfl⟩
  have hm : 0 ≤ mn (s.size : Int) 200 ∧ mn (s.size : Int) 200 ≤ (s.size : Int) ∧ mn (s.size : Int) 200 ≤ 200 := by unfold mn; split <;> omega
  have hus : u.size ≤ 4096 := by rw [← hu, ByteArray.size_extract]; omega
  unfold P.driftnetlaw20_LexOne.f
  refine (if_pos hm.1).trans ((if_pos hm.2.1).trans ?_)
  rw [hu, tokens_f u hus _ (by omega)]
  cases ht : toksP (K + 30000) 0 u.data.toList with
  | inl b =>
    simp only [Option.bind_some]
    refine (if_neg (by decide)).trans ?_
    rw [hA _ (by omega)]
    rfl
  | inr ts =>
    have hcut := toks_cut u.data.toList (K + 30000) 0 ts (Nat.zero_le _) (by rw [List.drop_zero]; exact ht)
    have hlen := cut_len ts 0 (Nat.zero_le _) hcut
    rw [← Lib.size_eq] at hlen
    simp only [Option.bind_some]
    refine (if_pos trivial).trans ?_
    exact one_l0 u hus ts hcut K hA ts.length 0 (K + 30000) (by omega) (by omega)
end Go.Proofs.YtioofhilohmfbaaGreatDoor
end
section
set_option linter.unusedVariables false
namespace Go.Proofs.YtioofhilohmfbaaGreatDoor
open Go Go.RowKit Go.Proofs.YtioofhilohmfbaaGreatDoorW.PrintWords
theorem awake_low : P.driftnetlaw20_awake.f 60 = some true := by decide +kernel
theorem awake_up : ∀ d : Nat, P.driftnetlaw20_awake.f (60 + d) = some true
  | 0 => awake_low
  | d + 1 => P.driftnetlaw20_awake.mono (60 + d) true (awake_up d)
theorem awake_true (k : Nat) (hk : 60 ≤ k) : P.driftnetlaw20_awake.f k = some true := by
  obtain ⟨d, rfl⟩ : ∃ d, k = 60 + d := ⟨k - 60, by omega⟩
  exact awake_up d
end Go.Proofs.YtioofhilohmfbaaGreatDoor
end
section
namespace Go.Proofs.YtioofhilohmfbaaGreatDoor
open Go
theorem lexOne_pure : P.driftnetlaw20_LexOne.Pure := fun a0 _ => ⟨60 + 30000, one_true a0 60 awake_true⟩
theorem lexOne_card : Rows.LexOneCardSaid := lexOne.card_of lexOne_pure
#print axioms lexOne_card
end Go.Proofs.YtioofhilohmfbaaGreatDoor
end
