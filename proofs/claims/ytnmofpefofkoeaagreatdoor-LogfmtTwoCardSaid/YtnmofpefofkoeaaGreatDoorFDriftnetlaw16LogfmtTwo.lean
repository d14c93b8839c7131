import Derived.Test.YtnmofpefofkoeaaGreatDoorF0
import Derived.Test.YtnmofpefofkoeaaGreatDoorFTwoM
import Derived.Test.YtnmofpefofkoeaaGreatDoorGet
import Derived.Test.YtnmofpefofkoeaaGreatDoorParse
import Derived.Test.YtnmofpefofkoeaaGreatDoorSet
namespace Go.Proofs.YtnmofpefofkoeaaGreatDoor.P
open Go.RowKit Go.Proofs.YtnmofpefofkoeaaGreatDoorW.PrintWords Go.Proofs.YtnmofpefofkoeaaGreatDoorW.PrintLast Go.Proofs.YtnmofpefofkoeaaGreatDoorW.PrintMore
attribute [local go_sem] max2_int min2_int max_two min_two max_three min_three max_four min_four leq_str
set_option linter.unusedVariables false
set_option linter.unusedSimpArgs false

/-! ### driftnetlaw16_LogfmtTwo: function 6 -/
theorem ext_size16 (a : ByteArray) (j : Int) (h : j ≤ (a.size : Int)) : (a.extract 0 (j : Int).toNat).size = (j).toNat := by rw [ByteArray.size_extract]; omega
mutual
def driftnetlaw16_LogfmtTwo.j0 : Nat → ByteArray → ByteArray → Int → List (S35) → Bool → List (S35) → Bool → Bool → Option (Bool)
  | 0, _, _, _, _, _, _, _, _ => none
  | k + 1, x0, x1, x2, x7, x8, x9, x10, x61 => if x61 = true then (some false) else (if x8 = true then (driftnetlaw16_LogfmtTwo.j1 k x0 x1 x2 x7 x8 x9 (!x10)) else (driftnetlaw16_LogfmtTwo.j1 k x0 x1 x2 x7 x8 x9 true))
def driftnetlaw16_LogfmtTwo.j1 : Nat → ByteArray → ByteArray → Int → List (S35) → Bool → List (S35) → Bool → Option (Bool)
  | 0, _, _, _, _, _, _, _ => none
  | k + 1, x0, x1, x2, x7, x8, x9, x67 => if x67 = true then (if (x7.length : Int) = 0 then (some true) else (some x8)) else ((driftnetlaw16_blanks.f x2).bind fun t17 => (if x0.size + t17.size ≤ 9223372036854775807 then (if (x0 ++ t17).size + x1.size ≤ 9223372036854775807 then ((logfmt_Parse.f ((x0 ++ t17) ++ x1)).bind fun bt18 => (driftnetlaw16_LogfmtTwo.l0 k x9 bt18.1 bt18.2 x7 0)) else (none)) else (none)))
def driftnetlaw16_LogfmtTwo.l0 : Nat → List (S35) → List (S35) → Bool → List (S35) → Int → Option (Bool)
  | 0, _, _, _, _, _ => none
  | k + 1, x9, x13, x14, x15, x16 => if x16 < (x9.length : Int) then (if 0 ≤ x16 then ((labels_Set.f x15 ((rd_T35 x9 x16).f0) ((rd_T35 x9 x16).f1)).bind fun t24 => (driftnetlaw16_LogfmtTwo.l0 k x9 x13 x14 t24 (wrap64 (x16 + 1)))) else (none)) else (if x14 = true then (driftnetlaw16_LogfmtTwo.j3 k x9 x13 x15 (decide ((x13.length : Int) > (x15.length : Int)))) else (driftnetlaw16_LogfmtTwo.j3 k x9 x13 x15 true))
def driftnetlaw16_LogfmtTwo.j3 : Nat → List (S35) → List (S35) → List (S35) → Bool → Option (Bool)
  | 0, _, _, _, _ => none
  | k + 1, x9, x13, x15, x111 => if x111 = true then (some false) else (driftnetlaw16_LogfmtTwo.l1 k x9 x13 x15 0)
def driftnetlaw16_LogfmtTwo.l1 : Nat → List (S35) → List (S35) → List (S35) → Int → Option (Bool)
  | 0, _, _, _, _ => none
  | k + 1, x9, x13, x15, x17 => if x17 < (x13.length : Int) then (if 0 ≤ x17 then ((labels_Get.f x15 ((rd_T35 x13 x17).f0)).bind fun t28 => (if t28.toList = ((rd_T35 x13 x17).f1).toList then (driftnetlaw16_LogfmtTwo.l1 k x9 x13 x15 (wrap64 (x17 + 1))) else (some false))) else (none)) else (driftnetlaw16_LogfmtTwo.l2 k x9 x13 0)
def driftnetlaw16_LogfmtTwo.l2 : Nat → List (S35) → List (S35) → Int → Option (Bool)
  | 0, _, _, _ => none
  | k + 1, x9, x13, x18 => if x18 < (x9.length : Int) then (if 0 ≤ x18 then ((labels_Get.f x13 ((rd_T35 x9 x18).f0)).bind fun t31 => (if t31.toList = ((rd_T35 x9 x18).f1).toList then (driftnetlaw16_LogfmtTwo.l2 k x9 x13 (wrap64 (x18 + 1))) else (some false))) else (none)) else (some true)
end
def driftnetlaw16_LogfmtTwo.f (k : Nat) (a0 : ByteArray) (a1 : ByteArray) (a2 : Int) : Option (Bool) := (driftnetlaw16_works.f k).bind fun t1 => (if t1 = true then (if 0 ≤ (mn (a0.size : Int) 2000) then (if (mn (a0.size : Int) 2000) ≤ (a0.size : Int) then (if 0 ≤ (mn (a1.size : Int) 2000) then (if (mn (a1.size : Int) 2000) ≤ (a1.size : Int) then ((logfmt_Parse.f (a0.extract 0 ((mn (a0.size : Int) 2000) : Int).toNat)).bind fun bt2 => ((logfmt_Parse.f (a1.extract 0 ((mn (a1.size : Int) 2000) : Int).toNat)).bind fun bt6 => ((driftnetlaw16_blanks.f a2).bind fun t10 => (if t10.size + (a0.extract 0 ((mn (a0.size : Int) 2000) : Int).toNat).size ≤ 9223372036854775807 then ((driftnetlaw16_blanks.f (wrap64 (Int.tdiv a2 2))).bind fun t11 => (if (t10 ++ (a0.extract 0 ((mn (a0.size : Int) 2000) : Int).toNat)).size + t11.size ≤ 9223372036854775807 then ((logfmt_Parse.f ((t10 ++ (a0.extract 0 ((mn (a0.size : Int) 2000) : Int).toNat)) ++ t11)).bind fun bt12 => (if (bt2.2 != bt12.2) = true then (driftnetlaw16_LogfmtTwo.j0 k (a0.extract 0 ((mn (a0.size : Int) 2000) : Int).toNat) (a1.extract 0 ((mn (a1.size : Int) 2000) : Int).toNat) a2 bt2.1 bt2.2 bt6.1 bt6.2 true) else ((driftnetlaw16_same.f k bt2.1 bt12.1).bind fun t16 => (driftnetlaw16_LogfmtTwo.j0 k (a0.extract 0 ((mn (a0.size : Int) 2000) : Int).toNat) (a1.extract 0 ((mn (a1.size : Int) 2000) : Int).toNat) a2 bt2.1 bt2.2 bt6.1 bt6.2 (!t16))))) else (none))) else (none))))) else (none)) else (none)) else (none)) else (none)) else (some false))
theorem driftnetlaw16_LogfmtTwo.mono_l : ∀ k, (∀ y0 y1 y2 y3 y4 y5 y6 y7, LeO (driftnetlaw16_LogfmtTwo.j0 k y0 y1 y2 y3 y4 y5 y6 y7) (driftnetlaw16_LogfmtTwo.j0 (k + 1) y0 y1 y2 y3 y4 y5 y6 y7)) ∧ (∀ y0 y1 y2 y3 y4 y5 y6, LeO (driftnetlaw16_LogfmtTwo.j1 k y0 y1 y2 y3 y4 y5 y6) (driftnetlaw16_LogfmtTwo.j1 (k + 1) y0 y1 y2 y3 y4 y5 y6)) ∧ (∀ y0 y1 y2 y3 y4, LeO (driftnetlaw16_LogfmtTwo.l0 k y0 y1 y2 y3 y4) (driftnetlaw16_LogfmtTwo.l0 (k + 1) y0 y1 y2 y3 y4)) ∧ (∀ y0 y1 y2 y3, LeO (driftnetlaw16_LogfmtTwo.j3 k y0 y1 y2 y3) (driftnetlaw16_LogfmtTwo.j3 (k + 1) y0 y1 y2 y3)) ∧ (∀ y0 y1 y2 y3, LeO (driftnetlaw16_LogfmtTwo.l1 k y0 y1 y2 y3) (driftnetlaw16_LogfmtTwo.l1 (k + 1) y0 y1 y2 y3)) ∧ (∀ y0 y1 y2, LeO (driftnetlaw16_LogfmtTwo.l2 k y0 y1 y2) (driftnetlaw16_LogfmtTwo.l2 (k + 1) y0 y1 y2))
  | 0 => ⟨fun _ _ _ _ _ _ _ _ r h => by simp [driftnetlaw16_LogfmtTwo.j0] at h, fun _ _ _ _ _ _ _ r h => by simp [driftnetlaw16_LogfmtTwo.j1] at h, fun _ _ _ _ _ r h => by simp [driftnetlaw16_LogfmtTwo.l0] at h, fun _ _ _ _ r h => by simp [driftnetlaw16_LogfmtTwo.j3] at h, fun _ _ _ _ r h => by simp [driftnetlaw16_LogfmtTwo.l1] at h, fun _ _ _ r h => by simp [driftnetlaw16_LogfmtTwo.l2] at h⟩
  | k + 1 => by
    obtain ⟨ih0, ih1, ih2, ih3, ih4, ih5⟩ := driftnetlaw16_LogfmtTwo.mono_l k
    refine ⟨?_, ?_, ?_, ?_, ?_, ?_⟩
    · intro y0 y1 y2 y3 y4 y5 y6 y7
      unfold driftnetlaw16_LogfmtTwo.j0
      repeat' first
      | (with_reducible exact ih0 _ _ _ _ _ _ _ _)
      | (with_reducible exact ih1 _ _ _ _ _ _ _)
      | (with_reducible exact ih2 _ _ _ _ _)
      | (with_reducible exact ih3 _ _ _ _)
      | (with_reducible exact ih4 _ _ _ _)
      | (with_reducible exact ih5 _ _ _)
      | (with_reducible exact driftnetlaw16_same.mono _ _ _)
      | (with_reducible exact driftnetlaw16_works.mono _)
      | (with_reducible exact LeO.refl _)
      | (with_reducible exact LeO.none _)
      | (with_reducible refine LeO.ite ?_ ?_)
      | (with_reducible refine LeO.bind ?_ (fun _ => ?_))
      | exact ih0 _ _ _ _ _ _ _ _
      | exact ih1 _ _ _ _ _ _ _
      | exact ih2 _ _ _ _ _
      | exact ih3 _ _ _ _
      | exact ih4 _ _ _ _
      | exact ih5 _ _ _
      | exact driftnetlaw16_same.mono _ _ _
      | exact driftnetlaw16_works.mono _
      | exact LeO.none _
      | refine LeO.ite ?_ ?_
      | refine LeO.bind ?_ (fun _ => ?_)
    · intro y0 y1 y2 y3 y4 y5 y6
      unfold driftnetlaw16_LogfmtTwo.j1
      repeat' first
      | (with_reducible exact ih0 _ _ _ _ _ _ _ _)
      | (with_reducible exact ih1 _ _ _ _ _ _ _)
      | (with_reducible exact ih2 _ _ _ _ _)
      | (with_reducible exact ih3 _ _ _ _)
      | (with_reducible exact ih4 _ _ _ _)
      | (with_reducible exact ih5 _ _ _)
      | (with_reducible exact driftnetlaw16_same.mono _ _ _)
      | (with_reducible exact driftnetlaw16_works.mono _)
      | (with_reducible exact LeO.refl _)
      | (with_reducible exact LeO.none _)
      | (with_reducible refine LeO.ite ?_ ?_)
      | (with_reducible refine LeO.bind ?_ (fun _ => ?_))
      | exact ih0 _ _ _ _ _ _ _ _
      | exact ih1 _ _ _ _ _ _ _
      | exact ih2 _ _ _ _ _
      | exact ih3 _ _ _ _
      | exact ih4 _ _ _ _
      | exact ih5 _ _ _
      | exact driftnetlaw16_same.mono _ _ _
      | exact driftnetlaw16_works.mono _
      | exact LeO.none _
      | refine LeO.ite ?_ ?_
      | refine LeO.bind ?_ (fun _ => ?_)
    · intro y0 y1 y2 y3 y4
      unfold driftnetlaw16_LogfmtTwo.l0
      repeat' first
      | (with_reducible exact ih0 _ _ _ _ _ _ _ _)
      | (with_reducible exact ih1 _ _ _ _ _ _ _)
      | (with_reducible exact ih2 _ _ _ _ _)
      | (with_reducible exact ih3 _ _ _ _)
      | (with_reducible exact ih4 _ _ _ _)
      | (with_reducible exact ih5 _ _ _)
      | (with_reducible exact driftnetlaw16_same.mono _ _ _)
      | (with_reducible exact driftnetlaw16_works.mono _)
      | (with_reducible exact LeO.refl _)
      | (with_reducible exact LeO.none _)
      | (with_reducible refine LeO.ite ?_ ?_)
      | (with_reducible refine LeO.bind ?_ (fun _ => ?_))
      | exact ih0 _ _ _ _ _ _ _ _
      | exact ih1 _ _ _ _ _ _ _
      | exact ih2 _ _ _ _ _
      | exact ih3 _ _ _ _
      | exact ih4 _ _ _ _
      | exact ih5 _ _ _
      | exact driftnetlaw16_same.mono _ _ _
      | exact driftnetlaw16_works.mono _
      | exact LeO.none _
      | refine LeO.ite ?_ ?_
      | refine LeO.bind ?_ (fun _ => ?_)
    · intro y0 y1 y2 y3
      unfold driftnetlaw16_LogfmtTwo.j3
      repeat' first
      | (with_reducible exact ih0 _ _ _ _ _ _ _ _)
      | (with_reducible exact ih1 _ _ _ _ _ _ _)
      | (with_reducible exact ih2 _ _ _ _ _)
      | (with_reducible exact ih3 _ _ _ _)
      | (with_reducible exact ih4 _ _ _ _)
      | (with_reducible exact ih5 _ _ _)
      | (with_reducible exact driftnetlaw16_same.mono _ _ _)
      | (with_reducible exact driftnetlaw16_works.mono _)
      | (with_reducible exact LeO.refl _)
      | (with_reducible exact LeO.none _)
      | (with_reducible refine LeO.ite ?_ ?_)
      | (with_reducible refine LeO.bind ?_ (fun _ => ?_))
      | exact ih0 _ _ _ _ _ _ _ _
      | exact ih1 _ _ _ _ _ _ _
      | exact ih2 _ _ _ _ _
      | exact ih3 _ _ _ _
      | exact ih4 _ _ _ _
      | exact ih5 _ _ _
      | exact driftnetlaw16_same.mono _ _ _
      | exact driftnetlaw16_works.mono _
      | exact LeO.none _
      | refine LeO.ite ?_ ?_
      | refine LeO.bind ?_ (fun _ => ?_)
    · intro y0 y1 y2 y3
      unfold driftnetlaw16_LogfmtTwo.l1
      repeat' first
      | (with_reducible exact ih0 _ _ _ _ _ _ _ _)
      | (with_reducible exact ih1 _ _ _ _ _ _ _)
      | (with_reducible exact ih2 _ _ _ _ _)
      | (with_reducible exact ih3 _ _ _ _)
      | (with_reducible exact ih4 _ _ _ _)
      | (with_reducible exact ih5 _ _ _)
      | (with_reducible exact driftnetlaw16_same.mono _ _ _)
      | (with_reducible exact driftnetlaw16_works.mono _)
      | (with_reducible exact LeO.refl _)
      | (with_reducible exact LeO.none _)
      | (with_reducible refine LeO.ite ?_ ?_)
      | (with_reducible refine LeO.bind ?_ (fun _ => ?_))
      | exact ih0 _ _ _ _ _ _ _ _
      | exact ih1 _ _ _ _ _ _ _
      | exact ih2 _ _ _ _ _
      | exact ih3 _ _ _ _
      | exact ih4 _ _ _ _
      | exact ih5 _ _ _
      | exact driftnetlaw16_same.mono _ _ _
      | exact driftnetlaw16_works.mono _
      | exact LeO.none _
      | refine LeO.ite ?_ ?_
      | refine LeO.bind ?_ (fun _ => ?_)
    · intro y0 y1 y2
      unfold driftnetlaw16_LogfmtTwo.l2
      repeat' first
      | (with_reducible exact ih0 _ _ _ _ _ _ _ _)
      | (with_reducible exact ih1 _ _ _ _ _ _ _)
      | (with_reducible exact ih2 _ _ _ _ _)
      | (with_reducible exact ih3 _ _ _ _)
      | (with_reducible exact ih4 _ _ _ _)
      | (with_reducible exact ih5 _ _ _)
      | (with_reducible exact driftnetlaw16_same.mono _ _ _)
      | (with_reducible exact driftnetlaw16_works.mono _)
      | (with_reducible exact LeO.refl _)
      | (with_reducible exact LeO.none _)
      | (with_reducible refine LeO.ite ?_ ?_)
      | (with_reducible refine LeO.bind ?_ (fun _ => ?_))
      | exact ih0 _ _ _ _ _ _ _ _
      | exact ih1 _ _ _ _ _ _ _
      | exact ih2 _ _ _ _ _
      | exact ih3 _ _ _ _
      | exact ih4 _ _ _ _
      | exact ih5 _ _ _
      | exact driftnetlaw16_same.mono _ _ _
      | exact driftnetlaw16_works.mono _
      | exact LeO.none _
      | refine LeO.ite ?_ ?_
      | refine LeO.bind ?_ (fun _ => ?_)
theorem driftnetlaw16_LogfmtTwo.mono : ∀ a0 a1 a2 k, LeO (driftnetlaw16_LogfmtTwo.f k a0 a1 a2) (driftnetlaw16_LogfmtTwo.f (k + 1) a0 a1 a2) := by
  intro a0 a1 a2 k
  obtain ⟨ih0, ih1, ih2, ih3, ih4, ih5⟩ := driftnetlaw16_LogfmtTwo.mono_l k
  unfold driftnetlaw16_LogfmtTwo.f
  repeat' first
      | (with_reducible exact ih0 _ _ _ _ _ _ _ _)
      | (with_reducible exact ih1 _ _ _ _ _ _ _)
      | (with_reducible exact ih2 _ _ _ _ _)
      | (with_reducible exact ih3 _ _ _ _)
      | (with_reducible exact ih4 _ _ _ _)
      | (with_reducible exact ih5 _ _ _)
      | (with_reducible exact driftnetlaw16_same.mono _ _ _)
      | (with_reducible exact driftnetlaw16_works.mono _)
      | (with_reducible exact LeO.refl _)
      | (with_reducible exact LeO.none _)
      | (with_reducible refine LeO.ite ?_ ?_)
      | (with_reducible refine LeO.bind ?_ (fun _ => ?_))
      | exact ih0 _ _ _ _ _ _ _ _
      | exact ih1 _ _ _ _ _ _ _
      | exact ih2 _ _ _ _ _
      | exact ih3 _ _ _ _
      | exact ih4 _ _ _ _
      | exact ih5 _ _ _
      | exact driftnetlaw16_same.mono _ _ _
      | exact driftnetlaw16_works.mono _
      | exact LeO.none _
      | refine LeO.ite ?_ ?_
      | refine LeO.bind ?_ (fun _ => ?_)
def driftnetlaw16_LogfmtTwo.T3 : Bool × List (List Nat × List Nat) := (true, [([], []), ([], []), ([1], [1]), ([2], [2]), ([0, 3], [0, 3]), ([], []), ([], []), ([6], [6]), ([7], [7]), ([5, 8], [5, 8]), ([4, 0, 1, 2, 3, 4], [0, 1, 4]), ([9, 10, 0, 1, 2, 3, 4, 5, 6, 7, 8, 9, 10], [5, 6, 9])])
def driftnetlaw16_LogfmtTwo.B3 : List Nat := [0, 0, 2, 6, 15, 0, 0, 64, 192, 480, 31, 2047]
theorem driftnetlaw16_LogfmtTwo.tab3 : rtab .any (opsOf Tryz.f6 3) = driftnetlaw16_LogfmtTwo.T3 := by kernel_rfl
theorem driftnetlaw16_LogfmtTwo.bits3 : waitsOk driftnetlaw16_LogfmtTwo.T3.2 driftnetlaw16_LogfmtTwo.B3 = true := by kernel_rfl
def driftnetlaw16_LogfmtTwo.T16 : Bool × List (List Nat × List Nat) := (true, [([], []), ([], []), ([], []), ([1, 2], [1, 2]), ([3], [3]), ([4], [4]), ([], []), ([], []), ([6, 7], [6, 7]), ([8], [8]), ([9], [9]), ([0, 5, 10], [0, 5, 10]), ([11, 11, 0, 1, 2, 3, 4, 5, 6, 7, 8, 9, 10, 11], [0, 11])])
def driftnetlaw16_LogfmtTwo.B16 : List Nat := [0, 0, 0, 6, 14, 30, 0, 0, 192, 448, 960, 2047, 4095]
theorem driftnetlaw16_LogfmtTwo.tab16 : rtab .any (opsOf Tryz.f6 16) = driftnetlaw16_LogfmtTwo.T16 := by kernel_rfl
theorem driftnetlaw16_LogfmtTwo.bits16 : waitsOk driftnetlaw16_LogfmtTwo.T16.2 driftnetlaw16_LogfmtTwo.B16 = true := by kernel_rfl
def driftnetlaw16_LogfmtTwo.T22 : Bool × List (List Nat × List Nat) := (true, [([], []), ([], []), ([], []), ([1, 2], [1, 2]), ([3], [3]), ([4], [4]), ([0, 5], [0, 5]), ([], []), ([], []), ([7, 8], [7, 8]), ([9], [9]), ([10], [10]), ([6, 11], [6, 11])])
def driftnetlaw16_LogfmtTwo.B22 : List Nat := [0, 0, 0, 6, 14, 30, 63, 0, 0, 384, 896, 1920, 4095]
theorem driftnetlaw16_LogfmtTwo.tab22 : rtab .any (opsOf Tryz.f6 22) = driftnetlaw16_LogfmtTwo.T22 := by kernel_rfl
theorem driftnetlaw16_LogfmtTwo.bits22 : waitsOk driftnetlaw16_LogfmtTwo.T22.2 driftnetlaw16_LogfmtTwo.B22 = true := by kernel_rfl
def driftnetlaw16_LogfmtTwo.T27 : Bool × List (List Nat × List Nat) := (true, [([], []), ([], []), ([], []), ([1, 2], [1, 2]), ([3], [3]), ([4], [4]), ([0, 5], [0, 5]), ([], []), ([], []), ([7, 8], [7, 8]), ([9], [9]), ([10], [10]), ([6, 11], [6, 11])])
def driftnetlaw16_LogfmtTwo.B27 : List Nat := [0, 0, 0, 6, 14, 30, 63, 0, 0, 384, 896, 1920, 4095]
theorem driftnetlaw16_LogfmtTwo.tab27 : rtab .any (opsOf Tryz.f6 27) = driftnetlaw16_LogfmtTwo.T27 := by kernel_rfl
theorem driftnetlaw16_LogfmtTwo.bits27 : waitsOk driftnetlaw16_LogfmtTwo.T27.2 driftnetlaw16_LogfmtTwo.B27 = true := by kernel_rfl
set_option maxHeartbeats 8000000 in
set_option maxRecDepth 100000 in
theorem driftnetlaw16_LogfmtTwo.calls (k : Nat) (a0 : ByteArray) (a1 : ByteArray) (a2 : Int) (r : Bool) (w : World) (hG : Aside0 (G w)) (h : driftnetlaw16_LogfmtTwo.f k a0 a1 a2 = some r) :
    Calls Tryz.prog 6 #[.string a0, .string a1, .int .i64 a2] w fun e w' => e = .returned (.bool r) ∧ Below w.heap.size w w' := by
  have HB := Aside0.mk (Below.refl w.heap.size w)
  have H : ((driftnetlaw16_works.f k).bind fun t1 => (if t1 = true then (if 0 ≤ (mn (a0.size : Int) 2000) then (if (mn (a0.size : Int) 2000) ≤ (a0.size : Int) then (if 0 ≤ (mn (a1.size : Int) 2000) then (if (mn (a1.size : Int) 2000) ≤ (a1.size : Int) then ((logfmt_Parse.f (a0.extract 0 ((mn (a0.size : Int) 2000) : Int).toNat)).bind fun bt2 => ((logfmt_Parse.f (a1.extract 0 ((mn (a1.size : Int) 2000) : Int).toNat)).bind fun bt6 => ((driftnetlaw16_blanks.f a2).bind fun t10 => (if t10.size + (a0.extract 0 ((mn (a0.size : Int) 2000) : Int).toNat).size ≤ 9223372036854775807 then ((driftnetlaw16_blanks.f (wrap64 (Int.tdiv a2 2))).bind fun t11 => (if (t10 ++ (a0.extract 0 ((mn (a0.size : Int) 2000) : Int).toNat)).size + t11.size ≤ 9223372036854775807 then ((logfmt_Parse.f ((t10 ++ (a0.extract 0 ((mn (a0.size : Int) 2000) : Int).toNat)) ++ t11)).bind fun bt12 => (if (bt2.2 != bt12.2) = true then (driftnetlaw16_LogfmtTwo.j0 k (a0.extract 0 ((mn (a0.size : Int) 2000) : Int).toNat) (a1.extract 0 ((mn (a1.size : Int) 2000) : Int).toNat) a2 bt2.1 bt2.2 bt6.1 bt6.2 true) else ((driftnetlaw16_same.f k bt2.1 bt12.1).bind fun t16 => (driftnetlaw16_LogfmtTwo.j0 k (a0.extract 0 ((mn (a0.size : Int) 2000) : Int).toNat) (a1.extract 0 ((mn (a1.size : Int) 2000) : Int).toNat) a2 bt2.1 bt2.2 bt6.1 bt6.2 (!t16))))) else (none))) else (none))))) else (none)) else (none)) else (none)) else (none)) else (some false))) = some r := h
  clear h
  replace H := Option.bind_eq_some_iff.mp H
  obtain ⟨t1, A40, H⟩ := H
  replace H : (if t1 = true then (if 0 ≤ (mn (a0.size : Int) 2000) then (if (mn (a0.size : Int) 2000) ≤ (a0.size : Int) then (if 0 ≤ (mn (a1.size : Int) 2000) then (if (mn (a1.size : Int) 2000) ≤ (a1.size : Int) then ((logfmt_Parse.f (a0.extract 0 ((mn (a0.size : Int) 2000) : Int).toNat)).bind fun bt2 => ((logfmt_Parse.f (a1.extract 0 ((mn (a1.size : Int) 2000) : Int).toNat)).bind fun bt6 => ((driftnetlaw16_blanks.f a2).bind fun t10 => (if t10.size + (a0.extract 0 ((mn (a0.size : Int) 2000) : Int).toNat).size ≤ 9223372036854775807 then ((driftnetlaw16_blanks.f (wrap64 (Int.tdiv a2 2))).bind fun t11 => (if (t10 ++ (a0.extract 0 ((mn (a0.size : Int) 2000) : Int).toNat)).size + t11.size ≤ 9223372036854775807 then ((logfmt_Parse.f ((t10 ++ (a0.extract 0 ((mn (a0.size : Int) 2000) : Int).toNat)) ++ t11)).bind fun bt12 => (if (bt2.2 != bt12.2) = true then (driftnetlaw16_LogfmtTwo.j0 k (a0.extract 0 ((mn (a0.size : Int) 2000) : Int).toNat) (a1.extract 0 ((mn (a1.size : Int) 2000) : Int).toNat) a2 bt2.1 bt2.2 bt6.1 bt6.2 true) else ((driftnetlaw16_same.f k bt2.1 bt12.1).bind fun t16 => (driftnetlaw16_LogfmtTwo.j0 k (a0.extract 0 ((mn (a0.size : Int) 2000) : Int).toNat) (a1.extract 0 ((mn (a1.size : Int) 2000) : Int).toNat) a2 bt2.1 bt2.2 bt6.1 bt6.2 (!t16))))) else (none))) else (none))))) else (none)) else (none)) else (none)) else (none)) else (some false)) = some r := H
  have A4 := Aside0.mk A40
  clear A40
  by_cases c5 : t1 = true
  · subst c5
    have H1 : (if 0 ≤ (mn (a0.size : Int) 2000) then (if (mn (a0.size : Int) 2000) ≤ (a0.size : Int) then (if 0 ≤ (mn (a1.size : Int) 2000) then (if (mn (a1.size : Int) 2000) ≤ (a1.size : Int) then ((logfmt_Parse.f (a0.extract 0 ((mn (a0.size : Int) 2000) : Int).toNat)).bind fun bt2 => ((logfmt_Parse.f (a1.extract 0 ((mn (a1.size : Int) 2000) : Int).toNat)).bind fun bt6 => ((driftnetlaw16_blanks.f a2).bind fun t10 => (if t10.size + (a0.extract 0 ((mn (a0.size : Int) 2000) : Int).toNat).size ≤ 9223372036854775807 then ((driftnetlaw16_blanks.f (wrap64 (Int.tdiv a2 2))).bind fun t11 => (if (t10 ++ (a0.extract 0 ((mn (a0.size : Int) 2000) : Int).toNat)).size + t11.size ≤ 9223372036854775807 then ((logfmt_Parse.f ((t10 ++ (a0.extract 0 ((mn (a0.size : Int) 2000) : Int).toNat)) ++ t11)).bind fun bt12 => (if (bt2.2 != bt12.2) = true then (driftnetlaw16_LogfmtTwo.j0 k (a0.extract 0 ((mn (a0.size : Int) 2000) : Int).toNat) (a1.extract 0 ((mn (a1.size : Int) 2000) : Int).toNat) a2 bt2.1 bt2.2 bt6.1 bt6.2 true) else ((driftnetlaw16_same.f k bt2.1 bt12.1).bind fun t16 => (driftnetlaw16_LogfmtTwo.j0 k (a0.extract 0 ((mn (a0.size : Int) 2000) : Int).toNat) (a1.extract 0 ((mn (a1.size : Int) 2000) : Int).toNat) a2 bt2.1 bt2.2 bt6.1 bt6.2 (!t16))))) else (none))) else (none))))) else (none)) else (none)) else (none)) else (none)) = some r := by rw [if_pos rfl] at H; exact H
    clear H
    have H := H1
    clear H1
    obtain ⟨ji6, hji6⟩ : ∃ j_ : Int, (mn (a0.size : Int) 2000) = j_ := ⟨_, rfl⟩
    replace H : (if 0 ≤ (ji6) then (if (ji6) ≤ (a0.size : Int) then (if 0 ≤ (mn (a1.size : Int) 2000) then (if (mn (a1.size : Int) 2000) ≤ (a1.size : Int) then ((logfmt_Parse.f (a0.extract 0 ((ji6) : Int).toNat)).bind fun bt2 => ((logfmt_Parse.f (a1.extract 0 ((mn (a1.size : Int) 2000) : Int).toNat)).bind fun bt6 => ((driftnetlaw16_blanks.f a2).bind fun t10 => (if t10.size + (a0.extract 0 ((ji6) : Int).toNat).size ≤ 9223372036854775807 then ((driftnetlaw16_blanks.f (wrap64 (Int.tdiv a2 2))).bind fun t11 => (if (t10 ++ (a0.extract 0 ((ji6) : Int).toNat)).size + t11.size ≤ 9223372036854775807 then ((logfmt_Parse.f ((t10 ++ (a0.extract 0 ((ji6) : Int).toNat)) ++ t11)).bind fun bt12 => (if (bt2.2 != bt12.2) = true then (driftnetlaw16_LogfmtTwo.j0 k (a0.extract 0 ((ji6) : Int).toNat) (a1.extract 0 ((mn (a1.size : Int) 2000) : Int).toNat) a2 bt2.1 bt2.2 bt6.1 bt6.2 true) else ((driftnetlaw16_same.f k bt2.1 bt12.1).bind fun t16 => (driftnetlaw16_LogfmtTwo.j0 k (a0.extract 0 ((ji6) : Int).toNat) (a1.extract 0 ((mn (a1.size : Int) 2000) : Int).toNat) a2 bt2.1 bt2.2 bt6.1 bt6.2 (!t16))))) else (none))) else (none))))) else (none)) else (none)) else (none)) else (none)) = some r := by first | (rw [hji6] at H; exact H) | (simp only [hji6] at H ⊢; exact H)
    (try rw [hji6] at A4)
    (try (have hji6h : ji6 ≤ 2000 := by (rw [← hji6]; unfold mn; (repeat' split) <;> omega)))
    (try (have hji6g : ji6 ≤ 64 := by omega))
    (try (have hji6l : 0 ≤ ji6 := by (rw [← hji6]; unfold mn; (repeat' split) <;> omega)))
    (try (have hji6m : 0 ≤ ji6 := by omega))
    have hji6_ : (if 2000 < (a0.size : Int) then 2000 else (a0.size : Int)) = ji6 := hji6
    by_cases c7 : 0 ≤ (ji6)
    · rw [if_pos c7] at H
      have c7b0 := eq_true c7
      have c7b1 : decide (0 ≤ (ji6)) = true := decide_eq_true c7
      clear c7
      by_cases c8 : (ji6) ≤ (a0.size : Int)
      · rw [if_pos c8] at H
        have c8b0 := eq_true c8
        have c8b1 : decide ((ji6) ≤ (a0.size : Int)) = true := decide_eq_true c8
        clear c8
        obtain ⟨ji9, hji9⟩ : ∃ j_ : Int, (mn (a1.size : Int) 2000) = j_ := ⟨_, rfl⟩
        replace H : (if 0 ≤ (ji9) then (if (ji9) ≤ (a1.size : Int) then ((logfmt_Parse.f (a0.extract 0 ((ji6) : Int).toNat)).bind fun bt2 => ((logfmt_Parse.f (a1.extract 0 ((ji9) : Int).toNat)).bind fun bt6 => ((driftnetlaw16_blanks.f a2).bind fun t10 => (if t10.size + (a0.extract 0 ((ji6) : Int).toNat).size ≤ 9223372036854775807 then ((driftnetlaw16_blanks.f (wrap64 (Int.tdiv a2 2))).bind fun t11 => (if (t10 ++ (a0.extract 0 ((ji6) : Int).toNat)).size + t11.size ≤ 9223372036854775807 then ((logfmt_Parse.f ((t10 ++ (a0.extract 0 ((ji6) : Int).toNat)) ++ t11)).bind fun bt12 => (if (bt2.2 != bt12.2) = true then (driftnetlaw16_LogfmtTwo.j0 k (a0.extract 0 ((ji6) : Int).toNat) (a1.extract 0 ((ji9) : Int).toNat) a2 bt2.1 bt2.2 bt6.1 bt6.2 true) else ((driftnetlaw16_same.f k bt2.1 bt12.1).bind fun t16 => (driftnetlaw16_LogfmtTwo.j0 k (a0.extract 0 ((ji6) : Int).toNat) (a1.extract 0 ((ji9) : Int).toNat) a2 bt2.1 bt2.2 bt6.1 bt6.2 (!t16))))) else (none))) else (none))))) else (none)) else (none)) = some r := by first | (rw [hji9] at H; exact H) | (simp only [hji9] at H ⊢; exact H)
        (try rw [hji9] at A4)
        (try (have hji9h : ji9 ≤ 2000 := by (rw [← hji9]; unfold mn; (repeat' split) <;> omega)))
        (try (have hji9g : ji9 ≤ 64 := by omega))
        (try (have hji9l : 0 ≤ ji9 := by (rw [← hji9]; unfold mn; (repeat' split) <;> omega)))
        (try (have hji9m : 0 ≤ ji9 := by omega))
        have hji9_ : (if 2000 < (a1.size : Int) then 2000 else (a1.size : Int)) = ji9 := hji9
        by_cases c10 : 0 ≤ (ji9)
        · rw [if_pos c10] at H
          have c10b0 := eq_true c10
          have c10b1 : decide (0 ≤ (ji9)) = true := decide_eq_true c10
          clear c10
          by_cases c11 : (ji9) ≤ (a1.size : Int)
          · rw [if_pos c11] at H
            have c11b0 := eq_true c11
            have c11b1 : decide ((ji9) ≤ (a1.size : Int)) = true := decide_eq_true c11
            clear c11
            replace H := Option.bind_eq_some_iff.mp H
            obtain ⟨⟨t2, t3⟩, A120, H⟩ := H
            replace H : ((logfmt_Parse.f (a1.extract 0 ((ji9) : Int).toNat)).bind fun bt6 => ((driftnetlaw16_blanks.f a2).bind fun t10 => (if t10.size + (a0.extract 0 ((ji6) : Int).toNat).size ≤ 9223372036854775807 then ((driftnetlaw16_blanks.f (wrap64 (Int.tdiv a2 2))).bind fun t11 => (if (t10 ++ (a0.extract 0 ((ji6) : Int).toNat)).size + t11.size ≤ 9223372036854775807 then ((logfmt_Parse.f ((t10 ++ (a0.extract 0 ((ji6) : Int).toNat)) ++ t11)).bind fun bt12 => (if (t3 != bt12.2) = true then (driftnetlaw16_LogfmtTwo.j0 k (a0.extract 0 ((ji6) : Int).toNat) (a1.extract 0 ((ji9) : Int).toNat) a2 t2 t3 bt6.1 bt6.2 true) else ((driftnetlaw16_same.f k t2 bt12.1).bind fun t16 => (driftnetlaw16_LogfmtTwo.j0 k (a0.extract 0 ((ji6) : Int).toNat) (a1.extract 0 ((ji9) : Int).toNat) a2 t2 t3 bt6.1 bt6.2 (!t16))))) else (none))) else (none)))) = some r := H
            have A12 := Aside0.mk A120
            clear A120
            replace H := Option.bind_eq_some_iff.mp H
            obtain ⟨⟨t6, t7⟩, A130, H⟩ := H
            replace H : ((driftnetlaw16_blanks.f a2).bind fun t10 => (if t10.size + (a0.extract 0 ((ji6) : Int).toNat).size ≤ 9223372036854775807 then ((driftnetlaw16_blanks.f (wrap64 (Int.tdiv a2 2))).bind fun t11 => (if (t10 ++ (a0.extract 0 ((ji6) : Int).toNat)).size + t11.size ≤ 9223372036854775807 then ((logfmt_Parse.f ((t10 ++ (a0.extract 0 ((ji6) : Int).toNat)) ++ t11)).bind fun bt12 => (if (t3 != bt12.2) = true then (driftnetlaw16_LogfmtTwo.j0 k (a0.extract 0 ((ji6) : Int).toNat) (a1.extract 0 ((ji9) : Int).toNat) a2 t2 t3 t6 t7 true) else ((driftnetlaw16_same.f k t2 bt12.1).bind fun t16 => (driftnetlaw16_LogfmtTwo.j0 k (a0.extract 0 ((ji6) : Int).toNat) (a1.extract 0 ((ji9) : Int).toNat) a2 t2 t3 t6 t7 (!t16))))) else (none))) else (none))) = some r := H
            have A13 := Aside0.mk A130
            clear A130
            replace H := Option.bind_eq_some_iff.mp H
            obtain ⟨t10, A140, H⟩ := H
            replace H : (if t10.size + (a0.extract 0 ((ji6) : Int).toNat).size ≤ 9223372036854775807 then ((driftnetlaw16_blanks.f (wrap64 (Int.tdiv a2 2))).bind fun t11 => (if (t10 ++ (a0.extract 0 ((ji6) : Int).toNat)).size + t11.size ≤ 9223372036854775807 then ((logfmt_Parse.f ((t10 ++ (a0.extract 0 ((ji6) : Int).toNat)) ++ t11)).bind fun bt12 => (if (t3 != bt12.2) = true then (driftnetlaw16_LogfmtTwo.j0 k (a0.extract 0 ((ji6) : Int).toNat) (a1.extract 0 ((ji9) : Int).toNat) a2 t2 t3 t6 t7 true) else ((driftnetlaw16_same.f k t2 bt12.1).bind fun t16 => (driftnetlaw16_LogfmtTwo.j0 k (a0.extract 0 ((ji6) : Int).toNat) (a1.extract 0 ((ji9) : Int).toNat) a2 t2 t3 t6 t7 (!t16))))) else (none))) else (none)) = some r := H
            have A14 := Aside0.mk A140
            clear A140
            by_cases c15 : t10.size + (a0.extract 0 ((ji6) : Int).toNat).size ≤ 9223372036854775807
            · rw [if_pos c15] at H
              have c15b0 := eq_true c15
              have c15b1 : decide (t10.size + (a0.extract 0 ((ji6) : Int).toNat).size ≤ 9223372036854775807) = true := decide_eq_true c15
              try have c15b2 : (9223372036854775807 < t10.size + (a0.extract 0 ((ji6) : Int).toNat).size) = False := eq_false (Nat.not_lt.2 c15)
              replace H := Option.bind_eq_some_iff.mp H
              obtain ⟨t11, A160, H⟩ := H
              replace H : (if (t10 ++ (a0.extract 0 ((ji6) : Int).toNat)).size + t11.size ≤ 9223372036854775807 then ((logfmt_Parse.f ((t10 ++ (a0.extract 0 ((ji6) : Int).toNat)) ++ t11)).bind fun bt12 => (if (t3 != bt12.2) = true then (driftnetlaw16_LogfmtTwo.j0 k (a0.extract 0 ((ji6) : Int).toNat) (a1.extract 0 ((ji9) : Int).toNat) a2 t2 t3 t6 t7 true) else ((driftnetlaw16_same.f k t2 bt12.1).bind fun t16 => (driftnetlaw16_LogfmtTwo.j0 k (a0.extract 0 ((ji6) : Int).toNat) (a1.extract 0 ((ji9) : Int).toNat) a2 t2 t3 t6 t7 (!t16))))) else (none)) = some r := H
              have A16 := Aside0.mk A160
              clear A160
              by_cases c17 : (t10 ++ (a0.extract 0 ((ji6) : Int).toNat)).size + t11.size ≤ 9223372036854775807
              · rw [if_pos c17] at H
                have c17b0 := eq_true c17
                have c17b1 : decide ((t10 ++ (a0.extract 0 ((ji6) : Int).toNat)).size + t11.size ≤ 9223372036854775807) = true := decide_eq_true c17
                try have c17b2 : (9223372036854775807 < (t10 ++ (a0.extract 0 ((ji6) : Int).toNat)).size + t11.size) = False := eq_false (Nat.not_lt.2 c17)
                have E6_ := Aside0.mk (ext_size16 a0 ji6 (of_eq_true c8b0))
                have E9_ := Aside0.mk (ext_size16 a1 ji9 (of_eq_true c11b0))
                have c17z0 : (t10.size + (ji6).toNat + t11.size ≤ 9223372036854775807) = True := eq_true (by have z_ := c17; simp only [ByteArray.size_append, E6_.out, E9_.out] at z_; exact z_)
                have c17z1 : (9223372036854775807 < t10.size + (ji6).toNat + t11.size) = False := eq_false (Nat.not_lt.2 (by have z_ := c17; simp only [ByteArray.size_append, E6_.out, E9_.out] at z_; exact z_))
                replace H := Option.bind_eq_some_iff.mp H
                obtain ⟨⟨t12, t13⟩, A180, H⟩ := H
                replace H : (if (t3 != t13) = true then (driftnetlaw16_LogfmtTwo.j0 k (a0.extract 0 ((ji6) : Int).toNat) (a1.extract 0 ((ji9) : Int).toNat) a2 t2 t3 t6 t7 true) else ((driftnetlaw16_same.f k t2 t12).bind fun t16 => (driftnetlaw16_LogfmtTwo.j0 k (a0.extract 0 ((ji6) : Int).toNat) (a1.extract 0 ((ji9) : Int).toNat) a2 t2 t3 t6 t7 (!t16)))) = some r := H
                have A18 := Aside0.mk A180
                clear A180
                have HC19 := Aside0.mk H
                clear H
                go_enter Tryz.func6, Tryz.ntmps6
                try go_wp2_with (first | ((with_reducible refine gate_callee (f := 11) rfl ?_); refine goesL_ (some 19) rfl rfl Tryz.func11 (by kernel_rfl) rfl #[] rfl (by (try simp only [List.map_toArray, List.map_cons, List.map_nil]); first | done | rfl | (simp only [List.length_drop, List.length_take]; rfl)) ?_; (with_reducible refine (driftnetlaw16_works.calls k  true _ ?side1 A4.out).mono ?_); (case side1 => exact G.at hG.out (by repeat (first | (with_reducible first | exact HB.out | apply below_alloc | apply pw_below_drewN | apply below_drew1) | exact HB.out))); rintro e w20 ⟨rfl, hb⟩; refine ⟨_, rfl, ?_⟩; have n0_ := Aside0.mk (below_step (by repeat (first | (with_reducible first | exact HB.out | apply below_alloc | apply pw_below_drewN | apply below_drew1) | exact HB.out)) hb); clear HB; have HB := n0_; clear n0_; (try clear hb); (try clear hb2); (try clear hk); (try clear hi)))
                have n0_ := Aside0.mk (below_drew1 HB.out)
                clear HB
                have HB := n0_
                clear n0_
                refine start_ (n := 12) (S := fun w' => True) (ds := []) #[false, false, false, false, false, false, false, false, false, false, false, false] (by kernel_rfl) rfl rfl trivial (fun hHeld => ?_); refine with_tabW driftnetlaw16_LogfmtTwo.tab3 driftnetlaw16_LogfmtTwo.bits3 (fun HT_ HW_ => ?_)
                generalize w20.drew = w21 at HB hHeld ⊢
                refine pure_ (i := 0) (N := some 21) (v := ?_) (a' := ?_) #[true, false, false, false, false, false, false, false, false, false, false, false] rfl rfl (any_of HT_.out (by kernel_rfl)) (fun _ _ _ h => h) (Or.inl ⟨by rfl, ?_⟩) ?_ ?_
                rotate_left
                · intro w'
                  go_simp
                  with_reducible rfl
                rotate_left
                · simp only [Act.put, List.setIfInBounds_toArray, List.set_cons_zero, List.set_cons_succ, i64_w, i32_w]
                  rfl
                refine pure_ (i := 1) (N := some 22) (v := ?_) (a' := ?_) #[true, true, false, false, false, false, false, false, false, false, false, false] rfl rfl (any_of HT_.out (by kernel_rfl)) (fun _ _ _ h => h) (Or.inl ⟨by rfl, ?_⟩) ?_ ?_
                rotate_left
                · intro w'
                  go_simp
                  with_reducible rfl
                rotate_left
                · simp only [Act.put, List.setIfInBounds_toArray, List.set_cons_zero, List.set_cons_succ, i64_w, i32_w]
                  rfl
                refine pure_ (i := 2) (N := some 23) (v := ?_) (a' := ?_) #[true, true, true, false, false, false, false, false, false, false, false, false] rfl rfl (any_of HT_.out (by kernel_rfl)) (fun _ _ _ h => h) (Or.inl ⟨by rfl, ?_⟩) ?_ ?_
                rotate_left
                · intro w'
                  go_simp
                  with_reducible rfl
                rotate_left
                · simp only [Act.put, List.setIfInBounds_toArray, List.set_cons_zero, List.set_cons_succ, i64_w, i32_w]
                  rfl
                refine pure_ (i := 3) (N := some 24) (v := ?_) (a' := ?_) #[true, true, true, true, false, false, false, false, false, false, false, false] rfl rfl (any_of HT_.out (by kernel_rfl)) (fun _ _ _ h => h) (Or.inl ⟨by rfl, ?_⟩) ?_ ?_
                rotate_left
                · intro w'
                  go_simp
                  with_reducible rfl
                rotate_left
                · simp only [Act.put, List.setIfInBounds_toArray, List.set_cons_zero, List.set_cons_succ, i64_w, i32_w]
                  rfl
                refine pure_ (i := 4) (N := some 25) (v := ?_) (a' := ?_) #[true, true, true, true, true, false, false, false, false, false, false, false] rfl rfl (any_of HT_.out (by kernel_rfl)) (fun _ _ _ h => h) (Or.inl ⟨by rfl, ?_⟩) ?_ ?_
                rotate_left
                · intro w'
                  go_simp
                  with_reducible rfl
                rotate_left
                · simp only [Act.put, List.setIfInBounds_toArray, List.set_cons_zero, List.set_cons_succ, i64_w, i32_w]
                  rfl
                refine pure_ (i := 5) (N := some 26) (v := ?_) (a' := ?_) #[true, true, true, true, true, true, false, false, false, false, false, false] rfl rfl (any_of HT_.out (by kernel_rfl)) (fun _ _ _ h => h) (Or.inl ⟨by rfl, ?_⟩) ?_ ?_
                rotate_left
                · intro w'
                  go_simp
                  with_reducible rfl
                rotate_left
                · simp only [Act.put, List.setIfInBounds_toArray, List.set_cons_zero, List.set_cons_succ, i64_w, i32_w]
                  rfl
                refine pure_ (i := 6) (N := some 27) (v := ?_) (a' := ?_) #[true, true, true, true, true, true, true, false, false, false, false, false] rfl rfl (any_of HT_.out (by kernel_rfl)) (fun _ _ _ h => h) (Or.inl ⟨by rfl, ?_⟩) ?_ ?_
                rotate_left
                · intro w'
                  go_simp
                  with_reducible rfl
                rotate_left
                · simp only [Act.put, List.setIfInBounds_toArray, List.set_cons_zero, List.set_cons_succ, i64_w, i32_w]
                  rfl
                refine pure_ (i := 7) (N := some 28) (v := ?_) (a' := ?_) #[true, true, true, true, true, true, true, true, false, false, false, false] rfl rfl (any_of HT_.out (by kernel_rfl)) (fun _ _ _ h => h) (Or.inl ⟨by rfl, ?_⟩) ?_ ?_
                rotate_left
                · intro w'
                  go_simp
                  with_reducible rfl
                rotate_left
                · simp only [Act.put, List.setIfInBounds_toArray, List.set_cons_zero, List.set_cons_succ, i64_w, i32_w]
                  rfl
                refine pure_ (i := 8) (N := some 29) (v := ?_) (a' := ?_) #[true, true, true, true, true, true, true, true, true, false, false, false] rfl rfl (any_of HT_.out (by kernel_rfl)) (fun _ _ _ h => h) (Or.inl ⟨by rfl, ?_⟩) ?_ ?_
                rotate_left
                · intro w'
                  go_simp
                  with_reducible rfl
                rotate_left
                · simp only [Act.put, List.setIfInBounds_toArray, List.set_cons_zero, List.set_cons_succ, i64_w, i32_w]
                  rfl
                refine pure_ (i := 9) (N := some 30) (v := ?_) (a' := ?_) #[true, true, true, true, true, true, true, true, true, true, false, false] rfl rfl (any_of HT_.out (by kernel_rfl)) (fun _ _ _ h => h) (Or.inl ⟨by rfl, ?_⟩) ?_ ?_
                rotate_left
                · intro w'
                  go_simp
                  with_reducible rfl
                rotate_left
                · simp only [Act.put, List.setIfInBounds_toArray, List.set_cons_zero, List.set_cons_succ, i64_w, i32_w]
                  rfl
                refine pure_ (i := 10) (N := some 0) (v := ?_) (a' := ?_) #[true, true, true, true, true, true, true, true, true, true, true, false] rfl rfl (any_of HT_.out (by kernel_rfl)) (fun _ _ _ h => h) (Or.inl ⟨by rfl, ?_⟩) ?_ ?_
                rotate_left
                · intro w'
                  go_simp
                  with_reducible rfl
                rotate_left
                · simp only [Act.put, List.setIfInBounds_toArray, List.set_cons_zero, List.set_cons_succ, i64_w, i32_w]
                  rfl
                refine pure_ (i := 11) (N := some 1) (v := ?_) (a' := ?_) #[true, true, true, true, true, true, true, true, true, true, true, true] rfl rfl (any_of HT_.out (by kernel_rfl)) (fun _ _ _ h => h) (Or.inl ⟨by rfl, ?_⟩) ?_ ?_
                rotate_left
                · intro w'
                  go_simp
                  with_reducible rfl
                rotate_left
                · simp only [Act.put, List.setIfInBounds_toArray, List.set_cons_zero, List.set_cons_succ, i64_w, i32_w]
                  rfl
                refine done_ (done_of HT_.out (by kernel_rfl)) ?_
                go_upto_region 7 with (first | ((with_reducible refine gate_callee (f := 8) rfl ?_); refine goesL_ (some 33) rfl rfl Tryz.func8 (by kernel_rfl) rfl #[.string (a0.extract 0 ((ji6) : Int).toNat)] rfl (by (try simp only [List.map_toArray, List.map_cons, List.map_nil]); first | done | (simp only [hji6]; rfl) | rfl | (simp only [List.length_drop, List.length_take]; rfl)) ?_; (with_reducible refine (logfmt_Parse.calls (a0.extract 0 ((ji6) : Int).toNat) t2 t3 _ ?side1 A12.out).mono ?_); (case side1 => exact G.at hG.out (by repeat (first | (with_reducible first | exact HB.out | apply below_alloc | apply pw_below_drewN | apply below_drew1) | exact HB.out))); rintro e w22 ⟨v4, rfl, ho0, hb⟩; refine ⟨_, rfl, ?_⟩; have n0_ := Aside0.mk (Kd.R_lower ho0 (below_size (by repeat (first | (with_reducible first | exact HB.out | apply below_alloc | apply pw_below_drewN | apply below_drew1) | exact HB.out)))); have n1_ := Aside0.mk (below_step (by repeat (first | (with_reducible first | exact HB.out | apply below_alloc | apply pw_below_drewN | apply below_drew1) | exact HB.out)) hb); clear HB; have HO5 := n0_; have HB := n1_; clear n0_ n1_; (try clear hb); (try clear hb2); (try clear hk); (try clear hi); (try clear ho0)) | ((with_reducible refine gate_callee (f := 8) rfl ?_); refine goesL_ (some 38) rfl rfl Tryz.func8 (by kernel_rfl) rfl #[.string (a1.extract 0 ((ji9) : Int).toNat)] rfl (by (try simp only [List.map_toArray, List.map_cons, List.map_nil]); first | done | (simp only [hji9]; rfl) | rfl | (simp only [List.length_drop, List.length_take]; rfl)) ?_; (with_reducible refine (logfmt_Parse.calls (a1.extract 0 ((ji9) : Int).toNat) t6 t7 _ ?side1 A13.out).mono ?_); (case side1 => exact G.at hG.out (by repeat (first | (with_reducible first | exact HB.out | apply below_alloc | apply pw_below_drewN | apply below_drew1) | exact HB.out))); rintro e w23 ⟨v8, rfl, ho0, hb⟩; refine ⟨_, rfl, ?_⟩; have n0_ := Aside0.mk (Kd.R_elder' (by (with_reducible repeat (first | apply Kd.R_alloc | apply Kd.R_drewN | apply Kd.R_drew)); exact HO5.out) (Kd.R_base ho0) hb); have n1_ := Aside0.mk (Kd.R_lower (Kd.R_new' ho0 (Kd.R_lt (by (with_reducible repeat (first | apply Kd.R_alloc | apply Kd.R_drewN | apply Kd.R_drew)); exact HO5.out))) (below_size (by repeat (first | (with_reducible first | exact HB.out | apply below_alloc | apply pw_below_drewN | apply below_drew1) | exact HB.out)))); have n2_ := Aside0.mk (below_step (by repeat (first | (with_reducible first | exact HB.out | apply below_alloc | apply pw_below_drewN | apply below_drew1) | exact HB.out)) hb); clear HO5; clear HB; have HO5 := n0_; have HO9 := n1_; have HB := n2_; clear n0_ n1_ n2_; (try clear hb); (try clear hb2); (try clear hk); (try clear hi); (try clear ho0)) | ((with_reducible refine gate_callee (f := 15) rfl ?_); refine goesL_ (some 43) rfl rfl Tryz.func15 (by kernel_rfl) rfl #[.int .i64 a2] rfl (by (try simp only [List.map_toArray, List.map_cons, List.map_nil]); first | done | rfl | (simp only [List.length_drop, List.length_take]; rfl)) ?_; (with_reducible refine (driftnetlaw16_blanks.calls a2 t10 _ A14.out).mono ?_); rintro e w24 ⟨rfl, hb⟩; refine ⟨_, rfl, ?_⟩; have n0_ := Aside0.mk (Kd.R_below (by (with_reducible repeat (first | apply Kd.R_alloc | apply Kd.R_drewN | apply Kd.R_drew)); exact HO5.out) hb); have n1_ := Aside0.mk (Kd.R_below (by (with_reducible repeat (first | apply Kd.R_alloc | apply Kd.R_drewN | apply Kd.R_drew)); exact HO9.out) hb); have n2_ := Aside0.mk (below_step (by repeat (first | (with_reducible first | exact HB.out | apply below_alloc | apply pw_below_drewN | apply below_drew1) | exact HB.out)) hb); clear HO5; clear HO9; clear HB; have HO5 := n0_; have HO9 := n1_; have HB := n2_; clear n0_ n1_ n2_; (try clear hb); (try clear hb2); (try clear hk); (try clear hi)) | ((with_reducible refine gate_callee (f := 15) rfl ?_); refine goesL_ (some 48) rfl rfl Tryz.func15 (by kernel_rfl) rfl #[.int .i64 (wrap64 (Int.tdiv a2 2))] rfl (by (try simp only [List.map_toArray, List.map_cons, List.map_nil]); first | done | rfl | (simp only [List.length_drop, List.length_take]; rfl)) ?_; (with_reducible refine (driftnetlaw16_blanks.calls (wrap64 (Int.tdiv a2 2)) t11 _ A16.out).mono ?_); rintro e w25 ⟨rfl, hb⟩; refine ⟨_, rfl, ?_⟩; have n0_ := Aside0.mk (Kd.R_below (by (with_reducible repeat (first | apply Kd.R_alloc | apply Kd.R_drewN | apply Kd.R_drew)); exact HO5.out) hb); have n1_ := Aside0.mk (Kd.R_below (by (with_reducible repeat (first | apply Kd.R_alloc | apply Kd.R_drewN | apply Kd.R_drew)); exact HO9.out) hb); have n2_ := Aside0.mk (below_step (by repeat (first | (with_reducible first | exact HB.out | apply below_alloc | apply pw_below_drewN | apply below_drew1) | exact HB.out)) hb); clear HO5; clear HO9; clear HB; have HO5 := n0_; have HO9 := n1_; have HB := n2_; clear n0_ n1_ n2_; (try clear hb); (try clear hb2); (try clear hk); (try clear hi)) | ((with_reducible refine gate_callee (f := 8) rfl ?_); refine goesL_ (some 50) rfl rfl Tryz.func8 (by kernel_rfl) rfl #[.string ((t10 ++ (a0.extract 0 ((ji6) : Int).toNat)) ++ t11)] rfl (by (try simp only [List.map_toArray, List.map_cons, List.map_nil]); first | done | (simp only [hji6]; rfl) | rfl | (simp only [List.length_drop, List.length_take]; rfl)) ?_; (with_reducible refine (logfmt_Parse.calls ((t10 ++ (a0.extract 0 ((ji6) : Int).toNat)) ++ t11) t12 t13 _ ?side1 A18.out).mono ?_); (case side1 => exact G.at hG.out (by repeat (first | (with_reducible first | exact HB.out | apply below_alloc | apply pw_below_drewN | apply below_drew1) | exact HB.out))); rintro e w26 ⟨v14, rfl, ho0, hb⟩; refine ⟨_, rfl, ?_⟩; have n0_ := Aside0.mk (Kd.R_elder' (by (with_reducible repeat (first | apply Kd.R_alloc | apply Kd.R_drewN | apply Kd.R_drew)); exact HO5.out) (Kd.R_base ho0) hb); have n1_ := Aside0.mk (Kd.R_elder' (by (with_reducible repeat (first | apply Kd.R_alloc | apply Kd.R_drewN | apply Kd.R_drew)); exact HO9.out) (Kd.R_base ho0) hb); have n2_ := Aside0.mk (Kd.R_lower (Kd.R_new' (Kd.R_new' ho0 (Kd.R_lt (by (with_reducible repeat (first | apply Kd.R_alloc | apply Kd.R_drewN | apply Kd.R_drew)); exact HO5.out))) (Kd.R_lt (by (with_reducible repeat (first | apply Kd.R_alloc | apply Kd.R_drewN | apply Kd.R_drew)); exact HO9.out))) (below_size (by repeat (first | (with_reducible first | exact HB.out | apply below_alloc | apply pw_below_drewN | apply below_drew1) | exact HB.out)))); have n3_ := Aside0.mk (below_step (by repeat (first | (with_reducible first | exact HB.out | apply below_alloc | apply pw_below_drewN | apply below_drew1) | exact HB.out)) hb); clear HO5; clear HO9; clear HB; have HO5 := n0_; have HO9 := n1_; have HO15 := n2_; have HB := n3_; clear n0_ n1_ n2_ n3_; (try clear hb); (try clear hb2); (try clear hk); (try clear hi); (try clear ho0)))
                (try simp only [Act.put, List.setIfInBounds_toArray, List.set_cons_zero, List.set_cons_succ])
                go_cut [61] (fun v61 wc => ∃ (kq : Nat) (x61_18 : Bool), v61 = .bool x61_18 ∧ Aside0 (driftnetlaw16_LogfmtTwo.j0 kq (a0.extract 0 ((ji6) : Int).toNat) (a1.extract 0 ((ji9) : Int).toNat) a2 t2 t3 t6 t7 x61_18 = some r) ∧ Aside0 (kq ≤ k) ∧ Aside0 (Kd.R k35 35 wc w.heap.size (fun k_ => some k_ ≠ (v8 : Value).ownBlock) v4 t2) ∧ Aside0 (Kd.R k35 35 wc w.heap.size (fun k_ => some k_ ≠ (v4 : Value).ownBlock) v8 t6) ∧ Aside0 (Below w.heap.size w wc))
                case first =>
                  have H := HC19.out
                  clear HC19
                  by_cases c27 : (t3 != t13) = true
                  · rw [if_pos c27] at H
                    have c27b0 : (t3 != t13) = true := c27
                    (try (have c27b1 : decide (t3 = t13) = false := by simpa using c27))
                    (try (have c27b2 : (t3 == t13) = false := by simpa using c27))
                    (try (have c27b3 : ¬ (t3 = t13) := by simpa using c27))
                    clear c27
                    (first | rw [c27b0] | (simp only [i64_w, i32_w]; rw [c27b0]) | skip)
                    have H' := Aside0.mk H
                    clear H
                    go_wp2
                    go_meet
                    case rel => exact ⟨_, (true), (by first | rfl | (simp; done) | (simp [*]; done)), H', ⟨by first | omega | exact Nat.le_refl _⟩, ⟨by (with_reducible repeat (first | apply Kd.R_alloc | apply Kd.R_drewN | apply Kd.R_drew)); exact Kd.R_mono HO5.out (fun _ hk => hk.1.2)⟩, ⟨by (with_reducible repeat (first | apply Kd.R_alloc | apply Kd.R_drewN | apply Kd.R_drew)); exact Kd.R_mono HO9.out (fun _ hk => hk.1.2)⟩, ⟨by repeat (first | (with_reducible first | exact HB.out | apply below_alloc | apply pw_below_drewN | apply below_drew1) | exact HB.out)⟩⟩
                  · rw [if_neg c27] at H
                    have c27b0 : (t3 != t13) = false := by simpa using c27
                    (try (have c27b1 : decide (t3 = t13) = true := by simpa using c27))
                    (try (have c27b2 : (t3 == t13) = true := by simpa using c27))
                    clear c27
                    (first | rw [c27b0] | (simp only [i64_w, i32_w]; rw [c27b0]) | skip)
                    replace H := Option.bind_eq_some_iff.mp H
                    obtain ⟨t16, A280, H⟩ := H
                    replace H : (driftnetlaw16_LogfmtTwo.j0 k (a0.extract 0 ((ji6) : Int).toNat) (a1.extract 0 ((ji9) : Int).toNat) a2 t2 t3 t6 t7 (!t16)) = some r := H
                    have A28 := Aside0.mk A280
                    clear A280
                    have H' := Aside0.mk H
                    clear H
                    obtain ⟨Ao29, co29, eo29⟩ := Kd.R_slice HO5.out
                    subst eo29
                    obtain ⟨Ao30, co30, eo30⟩ := Kd.R_slice HO15.out
                    subst eo30
                    go_wp2_with (first | (go_at_call 10; (with_reducible refine (driftnetlaw16_same.calls k _ _ t2 _ _ t12 t16 _ ?side1 ?side2 ?side3 ?side4 A28.out).mono ?_); (case side1 => repeat (first | exact (Kd.R_reads' HO5.out).2.2 | (with_reducible refine Kd.C_alloc ?_ _) | (with_reducible refine Kd.C_drewN ?_ _) | (with_reducible refine Kd.C_drew ?_))); (case side2 => exact (Kd.R_reads' HO5.out).2.1); (case side3 => repeat (first | exact (Kd.R_reads' HO15.out).2.2 | (with_reducible refine Kd.C_alloc ?_ _) | (with_reducible refine Kd.C_drewN ?_ _) | (with_reducible refine Kd.C_drew ?_))); (case side4 => exact (Kd.R_reads' HO15.out).2.1); rintro e w' ⟨rfl, ⟨nd, rfl⟩⟩))
                    go_meet
                    case rel => exact ⟨_, (!t16), (by first | rfl | (simp; done) | (simp [*]; done)), H', ⟨by first | omega | exact Nat.le_refl _⟩, ⟨by (with_reducible repeat (first | apply Kd.R_alloc | apply Kd.R_drewN | apply Kd.R_drew)); exact Kd.R_mono HO5.out (fun _ hk => hk.1.2)⟩, ⟨by (with_reducible repeat (first | apply Kd.R_alloc | apply Kd.R_drewN | apply Kd.R_drew)); exact Kd.R_mono HO9.out (fun _ hk => hk.1.2)⟩, ⟨by repeat (first | (with_reducible first | exact HB.out | apply below_alloc | apply pw_below_drewN | apply below_drew1) | exact HB.out)⟩⟩
                case rest =>
                  clear HC19
                  try clear c1
                  try clear c2
                  try clear p2
                  try clear c5
                  try clear c6
                  try clear p6
                  try clear c7
                  try clear c7b0
                  try clear c7b1
                  try clear c8
                  try clear c8b0
                  try clear c8b1
                  try clear c10
                  try clear c10b0
                  try clear c10b1
                  try clear c11
                  try clear c11b0
                  try clear c11b1
                  try clear c15
                  try clear c15b0
                  try clear c15b1
                  try clear c15b2
                  try clear c17
                  try clear c17b0
                  try clear c17b1
                  try clear c17b2
                  try clear c27
                  try clear c27b0
                  try clear c27b1
                  try clear c27b2
                  obtain ⟨kq, x61_18, rfl, HA, HJ18, HO_7, HO_9, HB⟩ := hcut
                  cases kq with
                  | zero => exact absurd HA.out (by simp [driftnetlaw16_LogfmtTwo.j0])
                  | succ kj18 =>
                    have H := HA.out
                    clear HA
                    simp only [driftnetlaw16_LogfmtTwo.j0] at H
                    by_cases c31 : x61_18 = true
                    · subst c31
                      have H1 : (some false) = some r := by rw [if_pos rfl] at H; exact H
                      clear H
                      have H := H1
                      clear H1
                      obtain rfl := Option.some.inj H
                      go_wp2
                      go_ret
                      exact ⟨by first | rfl | (simp [errW_none, errW_some] <;> rfl) | (simp only [← hji6, ← hji9]; first | rfl | (simp [errW_none, errW_some] <;> rfl)) | (simp [*, errW_none, errW_some] <;> rfl), by repeat (first | (with_reducible first | exact HB.out | apply below_alloc | apply pw_below_drewN | apply below_drew1) | exact HB.out)⟩
                    · replace c31 := Bool.eq_false_iff.mpr c31
                      subst c31
                      have H1 : (if t3 = true then (driftnetlaw16_LogfmtTwo.j1 kj18 (a0.extract 0 ((ji6) : Int).toNat) (a1.extract 0 ((ji9) : Int).toNat) a2 t2 t3 t6 (!t7)) else (driftnetlaw16_LogfmtTwo.j1 kj18 (a0.extract 0 ((ji6) : Int).toNat) (a1.extract 0 ((ji9) : Int).toNat) a2 t2 t3 t6 true)) = some r := by rw [if_neg (show ¬ (false = true) by decide)] at H; exact H
                      clear H
                      have H := H1
                      clear H1
                      have HC32 := Aside0.mk H
                      clear H
                      go_upto_region 9 with (fail)
                      go_cut [67] (fun v67 wc => ∃ (kq : Nat) (x67_31 : Bool), v67 = .bool x67_31 ∧ Aside0 (driftnetlaw16_LogfmtTwo.j1 kq (a0.extract 0 ((ji6) : Int).toNat) (a1.extract 0 ((ji9) : Int).toNat) a2 t2 t3 t6 x67_31 = some r) ∧ Aside0 (kq ≤ kj18) ∧ Aside0 (Kd.R k35 35 wc w.heap.size (fun k_ => some k_ ≠ (v8 : Value).ownBlock) v4 t2) ∧ Aside0 (Kd.R k35 35 wc w.heap.size (fun k_ => some k_ ≠ (v4 : Value).ownBlock) v8 t6) ∧ Aside0 (Below w.heap.size w wc))
                      case first =>
                        have H := HC32.out
                        clear HC32
                        by_cases c33 : t3 = true
                        · subst c33
                          have H1 : (driftnetlaw16_LogfmtTwo.j1 kj18 (a0.extract 0 ((ji6) : Int).toNat) (a1.extract 0 ((ji9) : Int).toNat) a2 t2 true t6 (!t7)) = some r := by rw [if_pos rfl] at H; exact H
                          clear H
                          have H := H1
                          clear H1
                          have H' := Aside0.mk H
                          clear H
                          go_wp2
                          go_meet
                          case rel => exact ⟨_, (!t7), (by first | rfl | (simp; done) | (simp [*]; done)), H', ⟨by have := HJ18.out; first | omega | exact Nat.le_refl _⟩, ⟨by (with_reducible repeat (first | apply Kd.R_alloc | apply Kd.R_drewN | apply Kd.R_drew)); exact HO_7.out⟩, ⟨by (with_reducible repeat (first | apply Kd.R_alloc | apply Kd.R_drewN | apply Kd.R_drew)); exact HO_9.out⟩, ⟨by repeat (first | (with_reducible first | exact HB.out | apply below_alloc | apply pw_below_drewN | apply below_drew1) | exact HB.out)⟩⟩
                        · replace c33 := Bool.eq_false_iff.mpr c33
                          subst c33
                          have H1 : (driftnetlaw16_LogfmtTwo.j1 kj18 (a0.extract 0 ((ji6) : Int).toNat) (a1.extract 0 ((ji9) : Int).toNat) a2 t2 false t6 true) = some r := by rw [if_neg (show ¬ (false = true) by decide)] at H; exact H
                          clear H
                          have H := H1
                          clear H1
                          have H' := Aside0.mk H
                          clear H
                          go_wp2
                          go_meet
                          case rel => exact ⟨_, (true), (by first | rfl | (simp; done) | (simp [*]; done)), H', ⟨by have := HJ18.out; first | omega | exact Nat.le_refl _⟩, ⟨by (with_reducible repeat (first | apply Kd.R_alloc | apply Kd.R_drewN | apply Kd.R_drew)); exact HO_7.out⟩, ⟨by (with_reducible repeat (first | apply Kd.R_alloc | apply Kd.R_drewN | apply Kd.R_drew)); exact HO_9.out⟩, ⟨by repeat (first | (with_reducible first | exact HB.out | apply below_alloc | apply pw_below_drewN | apply below_drew1) | exact HB.out)⟩⟩
                      case rest =>
                        clear HC32
                        try clear c1
                        try clear c2
                        try clear p2
                        try clear c3
                        try clear c5
                        try clear c6
                        try clear p6
                        try clear c7
                        try clear c7b0
                        try clear c7b1
                        try clear c8
                        try clear c8b0
                        try clear c8b1
                        try clear c10
                        try clear c10b0
                        try clear c10b1
                        try clear c11
                        try clear c11b0
                        try clear c11b1
                        try clear c15
                        try clear c15b0
                        try clear c15b1
                        try clear c15b2
                        try clear c17
                        try clear c17b0
                        try clear c17b1
                        try clear c17b2
                        try clear c27
                        try clear c27b0
                        try clear c27b1
                        try clear c27b2
                        try clear c31
                        try clear c33
                        try clear p2
                        try clear p6
                        obtain ⟨kq, x67_31, rfl, HA, HJ31, HO_7, HO_9, HB⟩ := hcut
                        cases kq with
                        | zero => exact absurd HA.out (by simp [driftnetlaw16_LogfmtTwo.j1])
                        | succ kj31 =>
                          have H := HA.out
                          clear HA
                          simp only [driftnetlaw16_LogfmtTwo.j1] at H
                          by_cases c34 : x67_31 = true
                          · subst c34
                            have H1 : (if (t2.length : Int) = 0 then (some true) else (some t3)) = some r := by rw [if_pos rfl] at H; exact H
                            clear H
                            have H := H1
                            clear H1
                            by_cases c35 : (t2.length : Int) = 0
                            · rw [if_pos c35] at H
                              have c35b0 : ((t2.length : Int) == 0) = true := beq_iff_eq.mpr c35
                              have c35b1 : ((t2.length : Int) != 0) = false := bne_eq_false_iff_eq.mpr c35
                              clear c35
                              obtain rfl := Option.some.inj H
                              obtain ⟨Ao36, co36, eo36⟩ := Kd.R_slice HO_7.out
                              subst eo36
                              go_wp2
                              go_ret
                              exact ⟨by first | rfl | (simp [errW_none, errW_some] <;> rfl) | (simp only [← hji6, ← hji9]; first | rfl | (simp [errW_none, errW_some] <;> rfl)) | (simp [*, errW_none, errW_some] <;> rfl), by repeat (first | (with_reducible first | exact HB.out | apply below_alloc | apply pw_below_drewN | apply below_drew1) | exact HB.out)⟩
                            · rw [if_neg c35] at H
                              have c35b0 : ((t2.length : Int) == 0) = false := beq_eq_false_iff_ne.mpr c35
                              have c35b1 : ((t2.length : Int) != 0) = true := bne_iff_ne.mpr c35
                              have c35b2 : ¬ (t2 = []) := fun h_ => c35 (by rw [h_]; rfl)
                              obtain rfl := Option.some.inj H
                              obtain ⟨Ao37, co37, eo37⟩ := Kd.R_slice HO_7.out
                              subst eo37
                              go_wp2
                              go_ret
                              exact ⟨by first | rfl | (simp [errW_none, errW_some] <;> rfl) | (simp only [← hji6, ← hji9]; first | rfl | (simp [errW_none, errW_some] <;> rfl)) | (simp [*, errW_none, errW_some] <;> rfl), by repeat (first | (with_reducible first | exact HB.out | apply below_alloc | apply pw_below_drewN | apply below_drew1) | exact HB.out)⟩
                          · replace c34 := Bool.eq_false_iff.mpr c34
                            subst c34
                            have H1 : ((driftnetlaw16_blanks.f a2).bind fun t17 => (if (a0.extract 0 ((ji6) : Int).toNat).size + t17.size ≤ 9223372036854775807 then (if ((a0.extract 0 ((ji6) : Int).toNat) ++ t17).size + (a1.extract 0 ((ji9) : Int).toNat).size ≤ 9223372036854775807 then ((logfmt_Parse.f (((a0.extract 0 ((ji6) : Int).toNat) ++ t17) ++ (a1.extract 0 ((ji9) : Int).toNat))).bind fun bt18 => (driftnetlaw16_LogfmtTwo.l0 kj31 t6 bt18.1 bt18.2 t2 0)) else (none)) else (none))) = some r := by rw [if_neg (show ¬ (false = true) by decide)] at H; exact H
                            clear H
                            have H := H1
                            clear H1
                            replace H := Option.bind_eq_some_iff.mp H
                            obtain ⟨t17, A380, H⟩ := H
                            replace H : (if (a0.extract 0 ((ji6) : Int).toNat).size + t17.size ≤ 9223372036854775807 then (if ((a0.extract 0 ((ji6) : Int).toNat) ++ t17).size + (a1.extract 0 ((ji9) : Int).toNat).size ≤ 9223372036854775807 then ((logfmt_Parse.f (((a0.extract 0 ((ji6) : Int).toNat) ++ t17) ++ (a1.extract 0 ((ji9) : Int).toNat))).bind fun bt18 => (driftnetlaw16_LogfmtTwo.l0 kj31 t6 bt18.1 bt18.2 t2 0)) else (none)) else (none)) = some r := H
                            have A38 := Aside0.mk A380
                            clear A380
                            by_cases c39 : (a0.extract 0 ((ji6) : Int).toNat).size + t17.size ≤ 9223372036854775807
                            · rw [if_pos c39] at H
                              have c39b0 := eq_true c39
                              have c39b1 : decide ((a0.extract 0 ((ji6) : Int).toNat).size + t17.size ≤ 9223372036854775807) = true := decide_eq_true c39
                              try have c39b2 : (9223372036854775807 < (a0.extract 0 ((ji6) : Int).toNat).size + t17.size) = False := eq_false (Nat.not_lt.2 c39)
                              have c39z0 : (min (ji6).toNat a0.size + t17.size ≤ 9223372036854775807) = True := eq_true (by have z_ := c39; simp only [ByteArray.size_append, ByteArray.size_extract, Nat.sub_zero] at z_; exact z_)
                              have c39z1 : (9223372036854775807 < min (ji6).toNat a0.size + t17.size) = False := eq_false (Nat.not_lt.2 (by have z_ := c39; simp only [ByteArray.size_append, ByteArray.size_extract, Nat.sub_zero] at z_; exact z_))
                              by_cases c40 : ((a0.extract 0 ((ji6) : Int).toNat) ++ t17).size + (a1.extract 0 ((ji9) : Int).toNat).size ≤ 9223372036854775807
                              · rw [if_pos c40] at H
                                have c40b0 := eq_true c40
                                have c40b1 : decide (((a0.extract 0 ((ji6) : Int).toNat) ++ t17).size + (a1.extract 0 ((ji9) : Int).toNat).size ≤ 9223372036854775807) = true := decide_eq_true c40
                                try have c40b2 : (9223372036854775807 < ((a0.extract 0 ((ji6) : Int).toNat) ++ t17).size + (a1.extract 0 ((ji9) : Int).toNat).size) = False := eq_false (Nat.not_lt.2 c40)
                                have c40z0 : (min (ji6).toNat a0.size + t17.size + min (ji9).toNat a1.size ≤ 9223372036854775807) = True := eq_true (by have z_ := c40; simp only [ByteArray.size_append, ByteArray.size_extract, Nat.sub_zero] at z_; exact z_)
                                have c40z1 : (9223372036854775807 < min (ji6).toNat a0.size + t17.size + min (ji9).toNat a1.size) = False := eq_false (Nat.not_lt.2 (by have z_ := c40; simp only [ByteArray.size_append, ByteArray.size_extract, Nat.sub_zero] at z_; exact z_))
                                replace H := Option.bind_eq_some_iff.mp H
                                obtain ⟨⟨t18, t19⟩, A410, H⟩ := H
                                replace H : (driftnetlaw16_LogfmtTwo.l0 kj31 t6 t18 t19 t2 0) = some r := H
                                have A41 := Aside0.mk A410
                                clear A410
                                have H' := Aside0.mk H
                                clear H
                                go_wp2_with (first | ((with_reducible refine gate_callee (f := 15) rfl ?_); refine goesL_ (some 77) rfl rfl Tryz.func15 (by kernel_rfl) rfl #[.int .i64 a2] rfl (by (try simp only [List.map_toArray, List.map_cons, List.map_nil]); first | done | rfl | (simp only [List.length_drop, List.length_take]; rfl)) ?_; (with_reducible refine (driftnetlaw16_blanks.calls a2 t17 _ A38.out).mono ?_); rintro e w42 ⟨rfl, hb⟩; refine ⟨_, rfl, ?_⟩; have n0_ := Aside0.mk (Kd.R_below (by (with_reducible repeat (first | apply Kd.R_alloc | apply Kd.R_drewN | apply Kd.R_drew)); exact HO_7.out) hb); have n1_ := Aside0.mk (Kd.R_below (by (with_reducible repeat (first | apply Kd.R_alloc | apply Kd.R_drewN | apply Kd.R_drew)); exact HO_9.out) hb); have n2_ := Aside0.mk (below_step (by repeat (first | (with_reducible first | exact HB.out | apply below_alloc | apply pw_below_drewN | apply below_drew1) | exact HB.out)) hb); clear HO_7; clear HO_9; clear HB; have HO_7 := n0_; have HO_9 := n1_; have HB := n2_; clear n0_ n1_ n2_; (try clear hb); (try clear hb2); (try clear hk); (try clear hi)) | ((with_reducible refine gate_callee (f := 8) rfl ?_); refine goesL_ (some 81) rfl rfl Tryz.func8 (by kernel_rfl) rfl #[.string (((a0.extract 0 ((ji6) : Int).toNat) ++ t17) ++ (a1.extract 0 ((ji9) : Int).toNat))] rfl (by (try simp only [List.map_toArray, List.map_cons, List.map_nil]); first | done | (simp only [hji6, hji9]; rfl) | rfl | (simp only [List.length_drop, List.length_take]; rfl)) ?_; (with_reducible refine (logfmt_Parse.calls (((a0.extract 0 ((ji6) : Int).toNat) ++ t17) ++ (a1.extract 0 ((ji9) : Int).toNat)) t18 t19 _ ?side1 A41.out).mono ?_); (case side1 => exact G.at hG.out (by repeat (first | (with_reducible first | exact HB.out | apply below_alloc | apply pw_below_drewN | apply below_drew1) | exact HB.out))); rintro e w43 ⟨v20, rfl, ho0, hb⟩; refine ⟨_, rfl, ?_⟩; have n0_ := Aside0.mk (Kd.R_elder' (by (with_reducible repeat (first | apply Kd.R_alloc | apply Kd.R_drewN | apply Kd.R_drew)); exact HO_7.out) (Kd.R_base ho0) hb); have n1_ := Aside0.mk (Kd.R_elder' (by (with_reducible repeat (first | apply Kd.R_alloc | apply Kd.R_drewN | apply Kd.R_drew)); exact HO_9.out) (Kd.R_base ho0) hb); have n2_ := Aside0.mk (Kd.R_lower (Kd.R_new' (Kd.R_new' ho0 (Kd.R_lt (by (with_reducible repeat (first | apply Kd.R_alloc | apply Kd.R_drewN | apply Kd.R_drew)); exact HO_7.out))) (Kd.R_lt (by (with_reducible repeat (first | apply Kd.R_alloc | apply Kd.R_drewN | apply Kd.R_drew)); exact HO_9.out))) (below_size (by repeat (first | (with_reducible first | exact HB.out | apply below_alloc | apply pw_below_drewN | apply below_drew1) | exact HB.out)))); have n3_ := Aside0.mk (below_step (by repeat (first | (with_reducible first | exact HB.out | apply below_alloc | apply pw_below_drewN | apply below_drew1) | exact HB.out)) hb); clear HO_7; clear HO_9; clear HB; have HO_7 := n0_; have HO_9 := n1_; have HO21 := n2_; have HB := n3_; clear n0_ n1_ n2_ n3_; (try clear hb); (try clear hb2); (try clear hk); (try clear hi); (try clear ho0)))
                                go_loopg [15, 16] kj31 (fun kq v15 v16 w' => ∃ (x15_3 : List (S35)) (x16_3 : Int), v16 = .int .i64 x16_3 ∧ Aside0 (driftnetlaw16_LogfmtTwo.l0 kq t6 t18 t19 x15_3 x16_3 = some r) ∧ Aside0 (kq ≤ kj31) ∧ Aside0 (Kd.R k35 35 w' w.heap.size (fun k_ => some k_ ≠ (v20 : Value).ownBlock ∧ some k_ ≠ (v15 : Value).ownBlock) v8 t6) ∧ Aside0 (Kd.R k35 35 w' w.heap.size (fun k_ => some k_ ≠ (v8 : Value).ownBlock ∧ some k_ ≠ (v15 : Value).ownBlock) v20 t18) ∧ Aside0 (Kd.R k35 35 w' w.heap.size (fun k_ => some k_ ≠ (v8 : Value).ownBlock ∧ some k_ ≠ (v20 : Value).ownBlock) v15 x15_3) ∧ Aside0 (Below w.heap.size w w'))
                                case atStart => exact ⟨(t2), (0), (by first | rfl | (simp; done) | (simp [*]; done)), H', ⟨Nat.le_refl _⟩, ⟨by (with_reducible repeat (first | apply Kd.R_alloc | apply Kd.R_drewN | apply Kd.R_drew)); exact Kd.R_mono HO_9.out (fun _ hk => ⟨hk.2, hk.1⟩)⟩, ⟨by (with_reducible repeat (first | apply Kd.R_alloc | apply Kd.R_drewN | apply Kd.R_drew)); exact Kd.R_mono HO21.out (fun _ hk => ⟨hk.2, hk.1.2⟩)⟩, ⟨by (with_reducible repeat (first | apply Kd.R_alloc | apply Kd.R_drewN | apply Kd.R_drew)); exact HO_7.out⟩, ⟨by repeat (first | (with_reducible first | exact HB.out | apply below_alloc | apply pw_below_drewN | apply below_drew1) | exact HB.out)⟩⟩
                                case round =>
                                  clear H'
                                  try clear c1
                                  try clear c2
                                  try clear p2
                                  try clear c3
                                  try clear c4
                                  try clear c5
                                  try clear c6
                                  try clear p6
                                  try clear c7
                                  try clear c7b0
                                  try clear c7b1
                                  try clear c8
                                  try clear c8b0
                                  try clear c8b1
                                  try clear c10
                                  try clear c10b0
                                  try clear c10b1
                                  try clear c11
                                  try clear c11b0
                                  try clear c11b1
                                  try clear c15
                                  try clear c15b0
                                  try clear c15b1
                                  try clear c15b2
                                  try clear c17
                                  try clear c17b0
                                  try clear c17b1
                                  try clear c17b2
                                  try clear c27
                                  try clear c27b0
                                  try clear c27b1
                                  try clear c27b2
                                  try clear c31
                                  try clear c33
                                  try clear c34
                                  try clear c35
                                  try clear c35b0
                                  try clear c35b1
                                  try clear c35b2
                                  try clear c39
                                  try clear c39b0
                                  try clear c39b1
                                  try clear c39b2
                                  try clear c40
                                  try clear c40b0
                                  try clear c40b1
                                  try clear c40b2
                                  try clear p2
                                  try clear p6
                                  obtain ⟨x15_3, x16_3, rfl, HA, HK3, HO_9, HO_13, HO_15, HB⟩ := hrel
                                  cases gk with
                                  | zero => exact absurd HA.out (by simp [driftnetlaw16_LogfmtTwo.l0])
                                  | succ k3 =>
                                    have H := HA.out
                                    clear HA
                                    simp only [driftnetlaw16_LogfmtTwo.l0] at H
                                    by_cases c44 : x16_3 < (t6.length : Int)
                                    · rw [if_pos c44] at H
                                      have c44b0 : decide (x16_3 < (t6.length : Int)) = true := decide_eq_true c44
                                      clear c44
                                      by_cases c45 : 0 ≤ x16_3
                                      · rw [if_pos c45] at H
                                        have c45b0 : decide (0 ≤ x16_3) = true := decide_eq_true c45
                                        clear c45
                                        replace H := Option.bind_eq_some_iff.mp H
                                        obtain ⟨t24, A460, H⟩ := H
                                        replace H : (driftnetlaw16_LogfmtTwo.l0 k3 t6 t18 t19 t24 (wrap64 (x16_3 + 1))) = some r := H
                                        have A46 := Aside0.mk A460
                                        clear A460
                                        have H' := Aside0.mk H
                                        clear H
                                        obtain ⟨Ao47, co47, eo47⟩ := Kd.R_slice HO_9.out
                                        subst eo47
                                        try go_wp2
                                        have n0_ := Aside0.mk (Kd.R_drew HO_9.out)
                                        have n1_ := Aside0.mk (Kd.R_drew HO_13.out)
                                        have n2_ := Aside0.mk (Kd.R_drew HO_15.out)
                                        have n3_ := Aside0.mk (below_drew1 HB.out)
                                        clear HO_9
                                        clear HO_13
                                        clear HO_15
                                        clear HB
                                        have HO_9 := n0_
                                        have HO_13 := n1_
                                        have HO_15 := n2_
                                        have HB := n3_
                                        clear n0_ n1_ n2_ n3_
                                        have p22 : 0 ≤ (x16_3 : Int) := of_decide_eq_true (by first | (with_reducible assumption) | assumption)
                                        have q22 : x16_3 < (t6.length : Int) := of_decide_eq_true (by first | (with_reducible assumption) | assumption)
                                        obtain ⟨ad22, e22, hx22_0, hx22_1⟩ := at_T35 (Kd.R_reads' HO_9.out).2.2 x16_3 p22 q22
                                        cases e22
                                        replace p22 := eq_true p22
                                        replace q22 := eq_true q22
                                        have p23 : 0 ≤ (x16_3 : Int) := of_decide_eq_true (by first | (with_reducible assumption) | assumption)
                                        have q23 : x16_3 < (t6.length : Int) := of_decide_eq_true (by first | (with_reducible assumption) | assumption)
                                        obtain ⟨ad23, e23, hx23_0, hx23_1⟩ := at_T35 (Kd.R_reads' HO_9.out).2.2 x16_3 p23 q23
                                        obtain rfl : ad22 = ad23 := (by injection e23)
                                        replace p23 := eq_true p23
                                        replace q23 := eq_true q23
                                        obtain ⟨Ao49, co49, eo49⟩ := Kd.R_slice HO_15.out
                                        (first | subst eo49 | (injection eo49 with f1_ f2_ f3_; have f4_ := f1_.symm; have f5_ := f3_.symm; clear f1_ f2_ f3_; subst f4_; subst f5_))
                                        refine start_ (n := 13) (S := fun w' => w'.cell? (ad22.add ((x16_3).toNat * 2)) = some (.string ((rd_T35 t6 x16_3).f0)) ∧ w'.cell? ⟨(ad22.add ((x16_3).toNat * 2)).block, (ad22.add ((x16_3).toNat * 2)).off + 1, none⟩ = some (.string ((rd_T35 t6 x16_3).f1)) ∧ w'.cell? (ad22.add ((x16_3).toNat * 2)) = some (.string ((rd_T35 t6 x16_3).f0)) ∧ w'.cell? ⟨(ad22.add ((x16_3).toNat * 2)).block, (ad22.add ((x16_3).toNat * 2)).off + 1, none⟩ = some (.string ((rd_T35 t6 x16_3).f1))) (ds := []) #[false, false, false, false, false, false, false, false, false, false, false, false, false] (by kernel_rfl) rfl rfl ⟨hx22_0, hx22_1, hx23_0, hx23_1⟩ (fun hHeld => ?_); refine with_tabW driftnetlaw16_LogfmtTwo.tab16 driftnetlaw16_LogfmtTwo.bits16 (fun HT_ HW_ => ?_)
                                        generalize wr.drew = w48 at HO_9 HO_13 HO_15 HB hx22_0 hx22_1 hx23_0 hx23_1 hHeld ⊢
                                        refine pure_ (i := 0) (N := some 91) (v := ?_) (a' := ?_) #[true, false, false, false, false, false, false, false, false, false, false, false, false] rfl rfl (any_of HT_.out (by kernel_rfl)) (fun _ _ _ h => h) (Or.inl ⟨by rfl, ?_⟩) ?_ ?_
                                        rotate_left
                                        · intro w'
                                          go_simp
                                          with_reducible rfl
                                        rotate_left
                                        · simp only [Act.put, List.setIfInBounds_toArray, List.set_cons_zero, List.set_cons_succ, i64_w, i32_w]
                                          rfl
                                        refine pure_ (i := 1) (N := some 92) (v := ?_) (a' := ?_) #[true, true, false, false, false, false, false, false, false, false, false, false, false] rfl rfl (any_of HT_.out (by kernel_rfl)) (fun _ _ _ h => h) (Or.inl ⟨by rfl, ?_⟩) ?_ ?_
                                        rotate_left
                                        · intro w'
                                          go_simp
                                          with_reducible rfl
                                        rotate_left
                                        · simp only [Act.put, List.setIfInBounds_toArray, List.set_cons_zero, List.set_cons_succ, i64_w, i32_w]
                                          rfl
                                        refine pure_ (i := 2) (N := some 93) (v := ?_) (a' := ?_) #[true, true, true, false, false, false, false, false, false, false, false, false, false] rfl rfl (any_of HT_.out (by kernel_rfl)) (fun _ _ _ h => h) (Or.inl ⟨by rfl, ?_⟩) ?_ ?_
                                        rotate_left
                                        · intro w'
                                          go_simp
                                          with_reducible rfl
                                        rotate_left
                                        · simp only [Act.put, List.setIfInBounds_toArray, List.set_cons_zero, List.set_cons_succ, i64_w, i32_w]
                                          rfl
                                        refine pure_ (i := 3) (N := some 94) (v := ?_) (a' := ?_) #[true, true, true, true, false, false, false, false, false, false, false, false, false] rfl rfl (any_of HT_.out (by kernel_rfl)) (fun _ _ _ h => h) (Or.inl ⟨by rfl, ?_⟩) ?_ ?_
                                        rotate_left
                                        · intro w'
                                          go_simp
                                          with_reducible rfl
                                        rotate_left
                                        · simp only [Act.put, List.setIfInBounds_toArray, List.set_cons_zero, List.set_cons_succ, i64_w, i32_w]
                                          rfl
                                        refine pure_ (i := 4) (N := some 95) (v := ?_) (a' := ?_) #[true, true, true, true, true, false, false, false, false, false, false, false, false] rfl rfl (any_of HT_.out (by kernel_rfl)) (fun _ _ _ h => h) (Or.inl ⟨by rfl, ?_⟩) ?_ ?_
                                        rotate_left
                                        · intro w'
                                          go_simp
                                          with_reducible rfl
                                        rotate_left
                                        · simp only [Act.put, List.setIfInBounds_toArray, List.set_cons_zero, List.set_cons_succ, i64_w, i32_w]
                                          rfl
                                        refine pure_ (i := 6) (N := some 97) (v := ?_) (a' := ?_) #[true, true, true, true, true, false, true, false, false, false, false, false, false] rfl rfl (any_of HT_.out (by kernel_rfl)) (fun _ _ _ h => h) (Or.inl ⟨by rfl, ?_⟩) ?_ ?_
                                        rotate_left
                                        · intro w'
                                          go_simp
                                          with_reducible rfl
                                        rotate_left
                                        · simp only [Act.put, List.setIfInBounds_toArray, List.set_cons_zero, List.set_cons_succ, i64_w, i32_w]
                                          rfl
                                        refine pure_ (i := 7) (N := some 98) (v := ?_) (a' := ?_) #[true, true, true, true, true, false, true, true, false, false, false, false, false] rfl rfl (any_of HT_.out (by kernel_rfl)) (fun _ _ _ h => h) (Or.inl ⟨by rfl, ?_⟩) ?_ ?_
                                        rotate_left
                                        · intro w'
                                          go_simp
                                          with_reducible rfl
                                        rotate_left
                                        · simp only [Act.put, List.setIfInBounds_toArray, List.set_cons_zero, List.set_cons_succ, i64_w, i32_w]
                                          rfl
                                        refine pure_ (i := 8) (N := some 99) (v := ?_) (a' := ?_) #[true, true, true, true, true, false, true, true, true, false, false, false, false] rfl rfl (any_of HT_.out (by kernel_rfl)) (fun _ _ _ h => h) (Or.inl ⟨by rfl, ?_⟩) ?_ ?_
                                        rotate_left
                                        · intro w'
                                          go_simp
                                          with_reducible rfl
                                        rotate_left
                                        · simp only [Act.put, List.setIfInBounds_toArray, List.set_cons_zero, List.set_cons_succ, i64_w, i32_w]
                                          rfl
                                        refine pure_ (i := 9) (N := some 100) (v := ?_) (a' := ?_) #[true, true, true, true, true, false, true, true, true, true, false, false, false] rfl rfl (any_of HT_.out (by kernel_rfl)) (fun _ _ _ h => h) (Or.inl ⟨by rfl, ?_⟩) ?_ ?_
                                        rotate_left
                                        · intro w'
                                          go_simp
                                          with_reducible rfl
                                        rotate_left
                                        · simp only [Act.put, List.setIfInBounds_toArray, List.set_cons_zero, List.set_cons_succ, i64_w, i32_w]
                                          rfl
                                        refine take_ (i := 5) (N := some 96) (v := ?_) (a' := ?_) #[true, true, true, true, true, true, true, true, true, true, false, false, false] rfl rfl (take_ofW HT_.out HW_.out (by kernel_rfl)) (fun _ _ _ h => h) (Or.inl ⟨by rfl, ?_⟩) hHeld ?_ ?_
                                        rotate_left
                                        · rintro w' ⟨s0, s1, s2, s3⟩
                                          go_simp
                                          with_reducible rfl
                                        rotate_left
                                        · simp only [Act.put, List.setIfInBounds_toArray, List.set_cons_zero, List.set_cons_succ, i64_w, i32_w]
                                          rfl
                                        refine take_ (i := 10) (N := some 101) (v := ?_) (a' := ?_) #[true, true, true, true, true, true, true, true, true, true, true, false, false] rfl rfl (take_ofW HT_.out HW_.out (by kernel_rfl)) (fun _ _ _ h => h) (Or.inl ⟨by rfl, ?_⟩) hHeld ?_ ?_
                                        rotate_left
                                        · rintro w' ⟨s0, s1, s2, s3⟩
                                          go_simp
                                          with_reducible rfl
                                        rotate_left
                                        · simp only [Act.put, List.setIfInBounds_toArray, List.set_cons_zero, List.set_cons_succ, i64_w, i32_w]
                                          rfl
                                        refine one_ (i := 11) (N := some 102) #[true, true, true, true, true, true, true, true, true, true, true, true, false] rfl rfl (one_of HT_.out (by kernel_rfl)) (by decide) (fun K hK => ?_)
                                        refine goes_ Tryz.func12 (by kernel_rfl) rfl #[.slice Ao49 x15_3.length co49, .string ((rd_T35 t6 x16_3).f0), .string ((rd_T35 t6 x16_3).f1)] (by rfl) rfl rfl (by (try simp only [List.map_toArray, List.map_cons, List.map_nil]); first | done | rfl | (simp only [List.length_drop, List.length_take]; rfl)) ?_
                                        with_reducible refine (labels_Set.calls _ _ x15_3 ((rd_T35 t6 x16_3).f0) ((rd_T35 t6 x16_3).f1) t24 _ ?side1 ?side2 A46.out).mono ?_
                                        (case side1 => repeat (first | exact (Kd.R_reads' HO_15.out).2.2 | (with_reducible refine Kd.C_alloc ?_ _) | (with_reducible refine Kd.C_drewN ?_ _) | (with_reducible refine Kd.C_drew ?_)))
                                        (case side2 => exact (Kd.R_reads' HO_15.out).2.1)
                                        rintro e w50 ⟨v25, rfl, ho0, hb⟩
                                        have HS0_ := (hb.cell (World.block_lt_of_cell? _ _ (hHeld.1))).trans (hHeld.1)
                                        have HS1_ := (hb.cell (World.block_lt_of_cell? _ _ (hHeld.2.1))).trans (hHeld.2.1)
                                        have HS2_ := (hb.cell (World.block_lt_of_cell? _ _ (hHeld.2.2.1))).trans (hHeld.2.2.1)
                                        have HS3_ := (hb.cell (World.block_lt_of_cell? _ _ (hHeld.2.2.2))).trans (hHeld.2.2.2)
                                        refine ⟨_, rfl, ?_⟩
                                        have n0_ := Aside0.mk (Kd.R_elder' (by (with_reducible repeat (first | apply Kd.R_alloc | apply Kd.R_drewN | apply Kd.R_drew)); exact HO_9.out) (Kd.R_base ho0) hb)
                                        have n1_ := Aside0.mk (Kd.R_elder' (by (with_reducible repeat (first | apply Kd.R_alloc | apply Kd.R_drewN | apply Kd.R_drew)); exact HO_13.out) (Kd.R_base ho0) hb)
                                        have n2_ := Aside0.mk (Kd.R_elder' (by (with_reducible repeat (first | apply Kd.R_alloc | apply Kd.R_drewN | apply Kd.R_drew)); exact HO_15.out) (Kd.R_base ho0) hb)
                                        have n3_ := Aside0.mk (Kd.R_lower (Kd.R_new' (Kd.R_new' (Kd.R_new' ho0 (Kd.R_lt (by (with_reducible repeat (first | apply Kd.R_alloc | apply Kd.R_drewN | apply Kd.R_drew)); exact HO_9.out))) (Kd.R_lt (by (with_reducible repeat (first | apply Kd.R_alloc | apply Kd.R_drewN | apply Kd.R_drew)); exact HO_13.out))) (Kd.R_lt (by (with_reducible repeat (first | apply Kd.R_alloc | apply Kd.R_drewN | apply Kd.R_drew)); exact HO_15.out))) (below_size (by repeat (first | (with_reducible first | exact HB.out | apply below_alloc | apply pw_below_drewN | apply below_drew1) | exact HB.out))))
                                        have n4_ := Aside0.mk (below_step (by repeat (first | (with_reducible first | exact HB.out | apply below_alloc | apply pw_below_drewN | apply below_drew1) | exact HB.out)) hb)
                                        clear HO_9
                                        clear HO_13
                                        clear HO_15
                                        clear HB
                                        have HO_9 := n0_
                                        have HO_13 := n1_
                                        have HO_15 := n2_
                                        have HO26 := n3_
                                        have HB := n4_
                                        clear n0_ n1_ n2_ n3_ n4_
                                        (try clear hb)
                                        (try clear hb2)
                                        (try clear hk)
                                        (try clear hi)
                                        (try clear ho0)
                                        refine hK.out _ _ ⟨HS0_, HS1_, HS2_, HS3_⟩ (fun hHeld => ?_)
                                        clear hK K
                                        refine norm_ (a' := ?_) ?_ ?_
                                        rotate_left
                                        · show Act.put _ (some 102) _ = _
                                          simp only [Act.put, List.setIfInBounds_toArray, List.set_cons_zero, List.set_cons_succ, i64_w, i32_w]
                                          rfl
                                        refine pure_ (i := 12) (N := some 15) (v := ?_) (a' := ?_) #[true, true, true, true, true, true, true, true, true, true, true, true, true] rfl rfl (any_of HT_.out (by kernel_rfl)) (fun _ _ _ h => h) (Or.inl ⟨by rfl, ?_⟩) ?_ ?_
                                        rotate_left
                                        · intro w'
                                          go_simp
                                          with_reducible rfl
                                        rotate_left
                                        · simp only [Act.put, List.setIfInBounds_toArray, List.set_cons_zero, List.set_cons_succ, i64_w, i32_w]
                                          rfl
                                        refine done_ (done_of HT_.out (by kernel_rfl)) ?_
                                        try go_wp2
                                        go_roundg k3
                                        case measure => have := HJ18.out; have := HJ31.out; have := HK3.out; omega
                                        case rel => exact ⟨(t24), (wrap64 (x16_3 + 1)), (by first | rfl | (simp; done) | (simp [*]; done)), H', ⟨by have := HJ18.out; have := HJ31.out; have := HK3.out; omega⟩, ⟨by (with_reducible repeat (first | apply Kd.R_alloc | apply Kd.R_drewN | apply Kd.R_drew)); exact Kd.R_mono HO_9.out (fun _ hk => ⟨hk.1.1, hk.2⟩)⟩, ⟨by (with_reducible repeat (first | apply Kd.R_alloc | apply Kd.R_drewN | apply Kd.R_drew)); exact Kd.R_mono HO_13.out (fun _ hk => ⟨hk.1.1, hk.2⟩)⟩, ⟨by (with_reducible repeat (first | apply Kd.R_alloc | apply Kd.R_drewN | apply Kd.R_drew)); exact Kd.R_mono HO26.out (fun _ hk => ⟨hk.1.1.2, hk.1.2⟩)⟩, ⟨by repeat (first | (with_reducible first | exact HB.out | apply below_alloc | apply pw_below_drewN | apply below_drew1) | exact HB.out)⟩⟩
                                      · rw [if_neg c45] at H
                                        exact absurd H (by simp)
                                    · rw [if_neg c44] at H
                                      have c44b0 : decide (x16_3 < (t6.length : Int)) = false := decide_eq_false c44
                                      clear c44
                                      have HC51 := Aside0.mk H
                                      clear H
                                      obtain ⟨Ao52, co52, eo52⟩ := Kd.R_slice HO_9.out
                                      subst eo52
                                      go_upto_region 17 with (fail)
                                      go_cut [111] (fun v111 wc => ∃ (kq : Nat) (x111_50 : Bool), v111 = .bool x111_50 ∧ Aside0 (driftnetlaw16_LogfmtTwo.j3 kq t6 t18 x15_3 x111_50 = some r) ∧ Aside0 (kq ≤ k3) ∧ Aside0 (Kd.R k35 35 wc w.heap.size (fun k_ => some k_ ≠ (v20 : Value).ownBlock ∧ some k_ ≠ (u15 : Value).ownBlock) (.slice Ao52 t6.length co52) t6) ∧ Aside0 (Kd.R k35 35 wc w.heap.size (fun k_ => some k_ ≠ ((.slice Ao52 t6.length co52) : Value).ownBlock ∧ some k_ ≠ (u15 : Value).ownBlock) v20 t18) ∧ Aside0 (Kd.R k35 35 wc w.heap.size (fun k_ => some k_ ≠ ((.slice Ao52 t6.length co52) : Value).ownBlock ∧ some k_ ≠ (v20 : Value).ownBlock) u15 x15_3) ∧ Aside0 (Below w.heap.size w wc))
                                      case first =>
                                        have H := HC51.out
                                        clear HC51
                                        by_cases c53 : t19 = true
                                        · subst c53
                                          have H1 : (driftnetlaw16_LogfmtTwo.j3 k3 t6 t18 x15_3 (decide ((t18.length : Int) > (x15_3.length : Int)))) = some r := by rw [if_pos rfl] at H; exact H
                                          clear H
                                          have H := H1
                                          clear H1
                                          have H' := Aside0.mk H
                                          clear H
                                          obtain ⟨Ao54, co54, eo54⟩ := Kd.R_slice HO_13.out
                                          subst eo54
                                          obtain ⟨Ao55, co55, eo55⟩ := Kd.R_slice HO_15.out
                                          subst eo55
                                          go_wp2
                                          go_meet
                                          case rel => exact ⟨_, (decide ((t18.length : Int) > (x15_3.length : Int))), (by first | rfl | (simp; done) | (simp [*]; done)), H', ⟨by have := HJ18.out; have := HJ31.out; have := HK3.out; first | omega | exact Nat.le_refl _⟩, ⟨by (with_reducible repeat (first | apply Kd.R_alloc | apply Kd.R_drewN | apply Kd.R_drew)); exact HO_9.out⟩, ⟨by (with_reducible repeat (first | apply Kd.R_alloc | apply Kd.R_drewN | apply Kd.R_drew)); exact HO_13.out⟩, ⟨by (with_reducible repeat (first | apply Kd.R_alloc | apply Kd.R_drewN | apply Kd.R_drew)); exact HO_15.out⟩, ⟨by repeat (first | (with_reducible first | exact HB.out | apply below_alloc | apply pw_below_drewN | apply below_drew1) | exact HB.out)⟩⟩
                                        · replace c53 := Bool.eq_false_iff.mpr c53
                                          subst c53
                                          have H1 : (driftnetlaw16_LogfmtTwo.j3 k3 t6 t18 x15_3 true) = some r := by rw [if_neg (show ¬ (false = true) by decide)] at H; exact H
                                          clear H
                                          have H := H1
                                          clear H1
                                          have H' := Aside0.mk H
                                          clear H
                                          go_wp2
                                          go_meet
                                          case rel => exact ⟨_, (true), (by first | rfl | (simp; done) | (simp [*]; done)), H', ⟨by have := HJ18.out; have := HJ31.out; have := HK3.out; first | omega | exact Nat.le_refl _⟩, ⟨by (with_reducible repeat (first | apply Kd.R_alloc | apply Kd.R_drewN | apply Kd.R_drew)); exact HO_9.out⟩, ⟨by (with_reducible repeat (first | apply Kd.R_alloc | apply Kd.R_drewN | apply Kd.R_drew)); exact HO_13.out⟩, ⟨by (with_reducible repeat (first | apply Kd.R_alloc | apply Kd.R_drewN | apply Kd.R_drew)); exact HO_15.out⟩, ⟨by repeat (first | (with_reducible first | exact HB.out | apply below_alloc | apply pw_below_drewN | apply below_drew1) | exact HB.out)⟩⟩
                                      case rest =>
                                        clear HC51
                                        try clear c1
                                        try clear c2
                                        try clear p2
                                        try clear q2
                                        try clear hx2
                                        try clear c3
                                        try clear c4
                                        try clear c5
                                        try clear c6
                                        try clear p6
                                        try clear c7
                                        try clear c7b0
                                        try clear c7b1
                                        try clear c8
                                        try clear c8b0
                                        try clear c8b1
                                        try clear c10
                                        try clear c10b0
                                        try clear c10b1
                                        try clear c11
                                        try clear c11b0
                                        try clear c11b1
                                        try clear c12
                                        try clear c15
                                        try clear c15b0
                                        try clear c15b1
                                        try clear c15b2
                                        try clear c17
                                        try clear c17b0
                                        try clear c17b1
                                        try clear c17b2
                                        try clear p22
                                        try clear q22
                                        try clear hx22
                                        try clear p23
                                        try clear q23
                                        try clear hx23
                                        try clear c27
                                        try clear c27b0
                                        try clear c27b1
                                        try clear c27b2
                                        try clear c31
                                        try clear c33
                                        try clear c34
                                        try clear c35
                                        try clear c35b0
                                        try clear c35b1
                                        try clear c35b2
                                        try clear c39
                                        try clear c39b0
                                        try clear c39b1
                                        try clear c39b2
                                        try clear c40
                                        try clear c40b0
                                        try clear c40b1
                                        try clear c40b2
                                        try clear c44
                                        try clear c44b0
                                        try clear c45
                                        try clear c45b0
                                        try clear c53
                                        try clear hx22_0
                                        try clear hx22_1
                                        try clear hx23_0
                                        try clear hx23_1
                                        try clear p2
                                        try clear p22
                                        try clear p23
                                        try clear p6
                                        try clear q22
                                        try clear q23
                                        obtain ⟨kq, x111_50, rfl, HA, HJ50, HO_9, HO_13, HO_15, HB⟩ := hcut
                                        cases kq with
                                        | zero => exact absurd HA.out (by simp [driftnetlaw16_LogfmtTwo.j3])
                                        | succ kj50 =>
                                          have H := HA.out
                                          clear HA
                                          simp only [driftnetlaw16_LogfmtTwo.j3] at H
                                          by_cases c56 : x111_50 = true
                                          · subst c56
                                            have H1 : (some false) = some r := by rw [if_pos rfl] at H; exact H
                                            clear H
                                            have H := H1
                                            clear H1
                                            obtain rfl := Option.some.inj H
                                            go_wp2
                                            go_ret
                                            exact ⟨by first | rfl | (simp [errW_none, errW_some] <;> rfl) | (simp only [← hji6, ← hji9]; first | rfl | (simp [errW_none, errW_some] <;> rfl)) | (simp [*, errW_none, errW_some] <;> rfl), by repeat (first | (with_reducible first | exact HB.out | apply below_alloc | apply pw_below_drewN | apply below_drew1) | exact HB.out)⟩
                                          · replace c56 := Bool.eq_false_iff.mpr c56
                                            subst c56
                                            have H1 : (driftnetlaw16_LogfmtTwo.l1 kj50 t6 t18 x15_3 0) = some r := by rw [if_neg (show ¬ (false = true) by decide)] at H; exact H
                                            clear H
                                            have H := H1
                                            clear H1
                                            have H' := Aside0.mk H
                                            clear H
                                            go_wp2
                                            go_loopg [17] kj50 (fun kq v17 w' => ∃ (x17_5 : Int), v17 = .int .i64 x17_5 ∧ Aside0 (driftnetlaw16_LogfmtTwo.l1 kq t6 t18 x15_3 x17_5 = some r) ∧ Aside0 (kq ≤ kj50) ∧ Aside0 (Kd.R k35 35 w' w.heap.size (fun k_ => some k_ ≠ (v20 : Value).ownBlock ∧ some k_ ≠ (u15 : Value).ownBlock) (.slice Ao52 t6.length co52) t6) ∧ Aside0 (Kd.R k35 35 w' w.heap.size (fun k_ => some k_ ≠ ((.slice Ao52 t6.length co52) : Value).ownBlock ∧ some k_ ≠ (u15 : Value).ownBlock) v20 t18) ∧ Aside0 (Kd.R k35 35 w' w.heap.size (fun k_ => some k_ ≠ ((.slice Ao52 t6.length co52) : Value).ownBlock ∧ some k_ ≠ (v20 : Value).ownBlock) u15 x15_3) ∧ Aside0 (Below w.heap.size w w'))
                                            case atStart => exact ⟨(0), (by first | rfl | (simp; done) | (simp [*]; done)), H', ⟨Nat.le_refl _⟩, ⟨by (with_reducible repeat (first | apply Kd.R_alloc | apply Kd.R_drewN | apply Kd.R_drew)); exact HO_9.out⟩, ⟨by (with_reducible repeat (first | apply Kd.R_alloc | apply Kd.R_drewN | apply Kd.R_drew)); exact HO_13.out⟩, ⟨by (with_reducible repeat (first | apply Kd.R_alloc | apply Kd.R_drewN | apply Kd.R_drew)); exact HO_15.out⟩, ⟨by repeat (first | (with_reducible first | exact HB.out | apply below_alloc | apply pw_below_drewN | apply below_drew1) | exact HB.out)⟩⟩
                                            case round =>
                                              clear H'
                                              try clear c1
                                              try clear c2
                                              try clear p2
                                              try clear q2
                                              try clear hx2
                                              try clear c3
                                              try clear c4
                                              try clear c5
                                              try clear c6
                                              try clear p6
                                              try clear c7
                                              try clear c7b0
                                              try clear c7b1
                                              try clear c8
                                              try clear c8b0
                                              try clear c8b1
                                              try clear c10
                                              try clear c10b0
                                              try clear c10b1
                                              try clear c11
                                              try clear c11b0
                                              try clear c11b1
                                              try clear c12
                                              try clear c15
                                              try clear c15b0
                                              try clear c15b1
                                              try clear c15b2
                                              try clear c17
                                              try clear c17b0
                                              try clear c17b1
                                              try clear c17b2
                                              try clear p22
                                              try clear q22
                                              try clear hx22
                                              try clear p23
                                              try clear q23
                                              try clear hx23
                                              try clear c27
                                              try clear c27b0
                                              try clear c27b1
                                              try clear c27b2
                                              try clear c31
                                              try clear c33
                                              try clear c34
                                              try clear c35
                                              try clear c35b0
                                              try clear c35b1
                                              try clear c35b2
                                              try clear c39
                                              try clear c39b0
                                              try clear c39b1
                                              try clear c39b2
                                              try clear c40
                                              try clear c40b0
                                              try clear c40b1
                                              try clear c40b2
                                              try clear c44
                                              try clear c44b0
                                              try clear c45
                                              try clear c45b0
                                              try clear c53
                                              try clear c56
                                              try clear hx22_0
                                              try clear hx22_1
                                              try clear hx23_0
                                              try clear hx23_1
                                              try clear p2
                                              try clear p22
                                              try clear p23
                                              try clear p6
                                              try clear q2
                                              try clear q22
                                              try clear q23
                                              obtain ⟨x17_5, rfl, HA, HK5, HO_9, HO_13, HO_15, HB⟩ := hrel
                                              cases gk with
                                              | zero => exact absurd HA.out (by simp [driftnetlaw16_LogfmtTwo.l1])
                                              | succ k5 =>
                                                have H := HA.out
                                                clear HA
                                                simp only [driftnetlaw16_LogfmtTwo.l1] at H
                                                by_cases c57 : x17_5 < (t18.length : Int)
                                                · rw [if_pos c57] at H
                                                  have c57b0 : decide (x17_5 < (t18.length : Int)) = true := decide_eq_true c57
                                                  clear c57
                                                  by_cases c58 : 0 ≤ x17_5
                                                  · rw [if_pos c58] at H
                                                    have c58b0 : decide (0 ≤ x17_5) = true := decide_eq_true c58
                                                    clear c58
                                                    replace H := Option.bind_eq_some_iff.mp H
                                                    obtain ⟨t28, A590, H⟩ := H
                                                    replace H : (if t28.toList = ((rd_T35 t18 x17_5).f1).toList then (driftnetlaw16_LogfmtTwo.l1 k5 t6 t18 x15_3 (wrap64 (x17_5 + 1))) else (some false)) = some r := H
                                                    have A59 := Aside0.mk A590
                                                    clear A590
                                                    by_cases c60 : t28.toList = ((rd_T35 t18 x17_5).f1).toList
                                                    · rw [if_pos c60] at H
                                                      have c60b0 : (t28.toList == ((rd_T35 t18 x17_5).f1).toList) = true := beq_iff_eq.mpr c60
                                                      have c60b1 : (t28.toList != ((rd_T35 t18 x17_5).f1).toList) = false := bne_eq_false_iff_eq.mpr c60
                                                      clear c60
                                                      have H' := Aside0.mk H
                                                      clear H
                                                      obtain ⟨Ao61, co61, eo61⟩ := Kd.R_slice HO_13.out
                                                      subst eo61
                                                      try go_wp2
                                                      have n0_ := Aside0.mk (Kd.R_drew HO_9.out)
                                                      have n1_ := Aside0.mk (Kd.R_drew HO_13.out)
                                                      have n2_ := Aside0.mk (Kd.R_drew HO_15.out)
                                                      have n3_ := Aside0.mk (below_drew1 HB.out)
                                                      clear HO_9
                                                      clear HO_13
                                                      clear HO_15
                                                      clear HB
                                                      have HO_9 := n0_
                                                      have HO_13 := n1_
                                                      have HO_15 := n2_
                                                      have HB := n3_
                                                      clear n0_ n1_ n2_ n3_
                                                      have p27 : 0 ≤ (x17_5 : Int) := of_decide_eq_true (by first | (with_reducible assumption) | assumption)
                                                      have q27 : x17_5 < (t18.length : Int) := of_decide_eq_true (by first | (with_reducible assumption) | assumption)
                                                      obtain ⟨ad27, e27, hx27_0, hx27_1⟩ := at_T35 (Kd.R_reads' HO_13.out).2.2 x17_5 p27 q27
                                                      cases e27
                                                      replace p27 := eq_true p27
                                                      replace q27 := eq_true q27
                                                      have p29 : 0 ≤ (x17_5 : Int) := of_decide_eq_true (by first | (with_reducible assumption) | assumption)
                                                      have q29 : x17_5 < (t18.length : Int) := of_decide_eq_true (by first | (with_reducible assumption) | assumption)
                                                      obtain ⟨ad29, e29, hx29_0, hx29_1⟩ := at_T35 (Kd.R_reads' HO_13.out).2.2 x17_5 p29 q29
                                                      obtain rfl : ad27 = ad29 := (by injection e29)
                                                      replace p29 := eq_true p29
                                                      replace q29 := eq_true q29
                                                      obtain ⟨Ao63, co63, eo63⟩ := Kd.R_slice HO_15.out
                                                      (first | subst eo63 | (injection eo63 with f1_ f2_ f3_; have f4_ := f1_.symm; have f5_ := f3_.symm; clear f1_ f2_ f3_; subst f4_; subst f5_))
                                                      refine start_ (n := 13) (S := fun w' => w'.cell? (ad27.add ((x17_5).toNat * 2)) = some (.string ((rd_T35 t18 x17_5).f0)) ∧ w'.cell? ⟨(ad27.add ((x17_5).toNat * 2)).block, (ad27.add ((x17_5).toNat * 2)).off + 1, none⟩ = some (.string ((rd_T35 t18 x17_5).f1)) ∧ w'.cell? (ad27.add ((x17_5).toNat * 2)) = some (.string ((rd_T35 t18 x17_5).f0)) ∧ w'.cell? ⟨(ad27.add ((x17_5).toNat * 2)).block, (ad27.add ((x17_5).toNat * 2)).off + 1, none⟩ = some (.string ((rd_T35 t18 x17_5).f1))) (ds := []) #[false, false, false, false, false, false, false, false, false, false, false, false, false] (by kernel_rfl) rfl rfl ⟨hx27_0, hx27_1, hx29_0, hx29_1⟩ (fun hHeld => ?_); refine with_tabW driftnetlaw16_LogfmtTwo.tab22 driftnetlaw16_LogfmtTwo.bits22 (fun HT_ HW_ => ?_)
                                                      generalize wr.drew = w62 at HO_9 HO_13 HO_15 HB hx27_0 hx27_1 hx29_0 hx29_1 hHeld ⊢
                                                      refine pure_ (i := 0) (N := some 118) (v := ?_) (a' := ?_) #[true, false, false, false, false, false, false, false, false, false, false, false, false] rfl rfl (any_of HT_.out (by kernel_rfl)) (fun _ _ _ h => h) (Or.inl ⟨by rfl, ?_⟩) ?_ ?_
                                                      rotate_left
                                                      · intro w'
                                                        go_simp
                                                        with_reducible rfl
                                                      rotate_left
                                                      · simp only [Act.put, List.setIfInBounds_toArray, List.set_cons_zero, List.set_cons_succ, i64_w, i32_w]
                                                        rfl
                                                      refine pure_ (i := 1) (N := some 119) (v := ?_) (a' := ?_) #[true, true, false, false, false, false, false, false, false, false, false, false, false] rfl rfl (any_of HT_.out (by kernel_rfl)) (fun _ _ _ h => h) (Or.inl ⟨by rfl, ?_⟩) ?_ ?_
                                                      rotate_left
                                                      · intro w'
                                                        go_simp
                                                        with_reducible rfl
                                                      rotate_left
                                                      · simp only [Act.put, List.setIfInBounds_toArray, List.set_cons_zero, List.set_cons_succ, i64_w, i32_w]
                                                        rfl
                                                      refine pure_ (i := 2) (N := some 120) (v := ?_) (a' := ?_) #[true, true, true, false, false, false, false, false, false, false, false, false, false] rfl rfl (any_of HT_.out (by kernel_rfl)) (fun _ _ _ h => h) (Or.inl ⟨by rfl, ?_⟩) ?_ ?_
                                                      rotate_left
                                                      · intro w'
                                                        go_simp
                                                        with_reducible rfl
                                                      rotate_left
                                                      · simp only [Act.put, List.setIfInBounds_toArray, List.set_cons_zero, List.set_cons_succ, i64_w, i32_w]
                                                        rfl
                                                      refine pure_ (i := 3) (N := some 121) (v := ?_) (a' := ?_) #[true, true, true, true, false, false, false, false, false, false, false, false, false] rfl rfl (any_of HT_.out (by kernel_rfl)) (fun _ _ _ h => h) (Or.inl ⟨by rfl, ?_⟩) ?_ ?_
                                                      rotate_left
                                                      · intro w'
                                                        go_simp
                                                        with_reducible rfl
                                                      rotate_left
                                                      · simp only [Act.put, List.setIfInBounds_toArray, List.set_cons_zero, List.set_cons_succ, i64_w, i32_w]
                                                        rfl
                                                      refine pure_ (i := 4) (N := some 122) (v := ?_) (a' := ?_) #[true, true, true, true, true, false, false, false, false, false, false, false, false] rfl rfl (any_of HT_.out (by kernel_rfl)) (fun _ _ _ h => h) (Or.inl ⟨by rfl, ?_⟩) ?_ ?_
                                                      rotate_left
                                                      · intro w'
                                                        go_simp
                                                        with_reducible rfl
                                                      rotate_left
                                                      · simp only [Act.put, List.setIfInBounds_toArray, List.set_cons_zero, List.set_cons_succ, i64_w, i32_w]
                                                        rfl
                                                      refine pure_ (i := 7) (N := some 125) (v := ?_) (a' := ?_) #[true, true, true, true, true, false, false, true, false, false, false, false, false] rfl rfl (any_of HT_.out (by kernel_rfl)) (fun _ _ _ h => h) (Or.inl ⟨by rfl, ?_⟩) ?_ ?_
                                                      rotate_left
                                                      · intro w'
                                                        go_simp
                                                        with_reducible rfl
                                                      rotate_left
                                                      · simp only [Act.put, List.setIfInBounds_toArray, List.set_cons_zero, List.set_cons_succ, i64_w, i32_w]
                                                        rfl
                                                      refine pure_ (i := 8) (N := some 126) (v := ?_) (a' := ?_) #[true, true, true, true, true, false, false, true, true, false, false, false, false] rfl rfl (any_of HT_.out (by kernel_rfl)) (fun _ _ _ h => h) (Or.inl ⟨by rfl, ?_⟩) ?_ ?_
                                                      rotate_left
                                                      · intro w'
                                                        go_simp
                                                        with_reducible rfl
                                                      rotate_left
                                                      · simp only [Act.put, List.setIfInBounds_toArray, List.set_cons_zero, List.set_cons_succ, i64_w, i32_w]
                                                        rfl
                                                      refine pure_ (i := 9) (N := some 127) (v := ?_) (a' := ?_) #[true, true, true, true, true, false, false, true, true, true, false, false, false] rfl rfl (any_of HT_.out (by kernel_rfl)) (fun _ _ _ h => h) (Or.inl ⟨by rfl, ?_⟩) ?_ ?_
                                                      rotate_left
                                                      · intro w'
                                                        go_simp
                                                        with_reducible rfl
                                                      rotate_left
                                                      · simp only [Act.put, List.setIfInBounds_toArray, List.set_cons_zero, List.set_cons_succ, i64_w, i32_w]
                                                        rfl
                                                      refine pure_ (i := 10) (N := some 128) (v := ?_) (a' := ?_) #[true, true, true, true, true, false, false, true, true, true, true, false, false] rfl rfl (any_of HT_.out (by kernel_rfl)) (fun _ _ _ h => h) (Or.inl ⟨by rfl, ?_⟩) ?_ ?_
                                                      rotate_left
                                                      · intro w'
                                                        go_simp
                                                        with_reducible rfl
                                                      rotate_left
                                                      · simp only [Act.put, List.setIfInBounds_toArray, List.set_cons_zero, List.set_cons_succ, i64_w, i32_w]
                                                        rfl
                                                      refine take_ (i := 5) (N := some 123) (v := ?_) (a' := ?_) #[true, true, true, true, true, true, false, true, true, true, true, false, false] rfl rfl (take_ofW HT_.out HW_.out (by kernel_rfl)) (fun _ _ _ h => h) (Or.inl ⟨by rfl, ?_⟩) hHeld ?_ ?_
                                                      rotate_left
                                                      · rintro w' ⟨s0, s1, s2, s3⟩
                                                        go_simp
                                                        with_reducible rfl
                                                      rotate_left
                                                      · simp only [Act.put, List.setIfInBounds_toArray, List.set_cons_zero, List.set_cons_succ, i64_w, i32_w]
                                                        rfl
                                                      refine take_ (i := 11) (N := some 129) (v := ?_) (a' := ?_) #[true, true, true, true, true, true, false, true, true, true, true, true, false] rfl rfl (take_ofW HT_.out HW_.out (by kernel_rfl)) (fun _ _ _ h => h) (Or.inl ⟨by rfl, ?_⟩) hHeld ?_ ?_
                                                      rotate_left
                                                      · rintro w' ⟨s0, s1, s2, s3⟩
                                                        go_simp
                                                        with_reducible rfl
                                                      rotate_left
                                                      · simp only [Act.put, List.setIfInBounds_toArray, List.set_cons_zero, List.set_cons_succ, i64_w, i32_w]
                                                        rfl
                                                      refine one_ (i := 6) (N := some 124) #[true, true, true, true, true, true, true, true, true, true, true, true, false] rfl rfl (one_of HT_.out (by kernel_rfl)) (by decide) (fun K hK => ?_)
                                                      refine goes_ Tryz.func16 (by kernel_rfl) rfl #[.slice Ao63 x15_3.length co63, .string ((rd_T35 t18 x17_5).f0)] (by rfl) rfl rfl (by (try simp only [List.map_toArray, List.map_cons, List.map_nil]); first | done | rfl | (simp only [List.length_drop, List.length_take]; rfl)) ?_
                                                      with_reducible refine (labels_Get.calls _ _ x15_3 ((rd_T35 t18 x17_5).f0) t28 _ ?side1 ?side2 A59.out).mono ?_
                                                      (case side1 => repeat (first | exact (Kd.R_reads' HO_15.out).2.2 | (with_reducible refine Kd.C_alloc ?_ _) | (with_reducible refine Kd.C_drewN ?_ _) | (with_reducible refine Kd.C_drew ?_)))
                                                      (case side2 => exact (Kd.R_reads' HO_15.out).2.1)
                                                      rintro e w64 ⟨rfl, hb⟩
                                                      have HS0_ := (hb.cell (World.block_lt_of_cell? _ _ (hHeld.1))).trans (hHeld.1)
                                                      have HS1_ := (hb.cell (World.block_lt_of_cell? _ _ (hHeld.2.1))).trans (hHeld.2.1)
                                                      have HS2_ := (hb.cell (World.block_lt_of_cell? _ _ (hHeld.2.2.1))).trans (hHeld.2.2.1)
                                                      have HS3_ := (hb.cell (World.block_lt_of_cell? _ _ (hHeld.2.2.2))).trans (hHeld.2.2.2)
                                                      refine ⟨_, rfl, ?_⟩
                                                      have n0_ := Aside0.mk (Kd.R_below (by (with_reducible repeat (first | apply Kd.R_alloc | apply Kd.R_drewN | apply Kd.R_drew)); exact HO_9.out) hb)
                                                      have n1_ := Aside0.mk (Kd.R_below (by (with_reducible repeat (first | apply Kd.R_alloc | apply Kd.R_drewN | apply Kd.R_drew)); exact HO_13.out) hb)
                                                      have n2_ := Aside0.mk (Kd.R_below (by (with_reducible repeat (first | apply Kd.R_alloc | apply Kd.R_drewN | apply Kd.R_drew)); exact HO_15.out) hb)
                                                      have n3_ := Aside0.mk (below_step (by repeat (first | (with_reducible first | exact HB.out | apply below_alloc | apply pw_below_drewN | apply below_drew1) | exact HB.out)) hb)
                                                      clear HO_9
                                                      clear HO_13
                                                      clear HO_15
                                                      clear HB
                                                      have HO_9 := n0_
                                                      have HO_13 := n1_
                                                      have HO_15 := n2_
                                                      have HB := n3_
                                                      clear n0_ n1_ n2_ n3_
                                                      (try clear hb)
                                                      (try clear hb2)
                                                      (try clear hk)
                                                      (try clear hi)
                                                      refine hK.out _ _ ⟨HS0_, HS1_, HS2_, HS3_⟩ (fun hHeld => ?_)
                                                      clear hK K
                                                      refine norm_ (a' := ?_) ?_ ?_
                                                      rotate_left
                                                      · show Act.put _ (some 124) _ = _
                                                        simp only [Act.put, List.setIfInBounds_toArray, List.set_cons_zero, List.set_cons_succ, i64_w, i32_w]
                                                        rfl
                                                      refine pure_ (i := 12) (N := some 130) (v := ?_) (a' := ?_) #[true, true, true, true, true, true, true, true, true, true, true, true, true] rfl rfl (any_of HT_.out (by kernel_rfl)) (fun _ _ _ h => h) (Or.inl ⟨by rfl, ?_⟩) ?_ ?_
                                                      rotate_left
                                                      · intro w'
                                                        go_simp
                                                        with_reducible rfl
                                                      rotate_left
                                                      · simp only [Act.put, List.setIfInBounds_toArray, List.set_cons_zero, List.set_cons_succ, i64_w, i32_w]
                                                        rfl
                                                      refine done_ (done_of HT_.out (by kernel_rfl)) ?_
                                                      try go_wp2
                                                      go_roundg k5
                                                      case measure => have := HJ18.out; have := HJ31.out; have := HK3.out; have := HJ50.out; have := HK5.out; omega
                                                      case rel => exact ⟨(wrap64 (x17_5 + 1)), (by first | rfl | (simp; done) | (simp [*]; done)), H', ⟨by have := HJ18.out; have := HJ31.out; have := HK3.out; have := HJ50.out; have := HK5.out; omega⟩, ⟨by (with_reducible repeat (first | apply Kd.R_alloc | apply Kd.R_drewN | apply Kd.R_drew)); exact HO_9.out⟩, ⟨by (with_reducible repeat (first | apply Kd.R_alloc | apply Kd.R_drewN | apply Kd.R_drew)); exact HO_13.out⟩, ⟨by (with_reducible repeat (first | apply Kd.R_alloc | apply Kd.R_drewN | apply Kd.R_drew)); exact HO_15.out⟩, ⟨by repeat (first | (with_reducible first | exact HB.out | apply below_alloc | apply pw_below_drewN | apply below_drew1) | exact HB.out)⟩⟩
                                                    · rw [if_neg c60] at H
                                                      have c60b0 : (t28.toList == ((rd_T35 t18 x17_5).f1).toList) = false := beq_eq_false_iff_ne.mpr c60
                                                      have c60b1 : (t28.toList != ((rd_T35 t18 x17_5).f1).toList) = true := bne_iff_ne.mpr c60
                                                      obtain rfl := Option.some.inj H
                                                      obtain ⟨Ao65, co65, eo65⟩ := Kd.R_slice HO_13.out
                                                      subst eo65
                                                      try go_wp2
                                                      have n0_ := Aside0.mk (Kd.R_drew HO_9.out)
                                                      have n1_ := Aside0.mk (Kd.R_drew HO_13.out)
                                                      have n2_ := Aside0.mk (Kd.R_drew HO_15.out)
                                                      have n3_ := Aside0.mk (below_drew1 HB.out)
                                                      clear HO_9
                                                      clear HO_13
                                                      clear HO_15
                                                      clear HB
                                                      have HO_9 := n0_
                                                      have HO_13 := n1_
                                                      have HO_15 := n2_
                                                      have HB := n3_
                                                      clear n0_ n1_ n2_ n3_
                                                      have p27 : 0 ≤ (x17_5 : Int) := of_decide_eq_true (by first | (with_reducible assumption) | assumption)
                                                      have q27 : x17_5 < (t18.length : Int) := of_decide_eq_true (by first | (with_reducible assumption) | assumption)
                                                      obtain ⟨ad27, e27, hx27_0, hx27_1⟩ := at_T35 (Kd.R_reads' HO_13.out).2.2 x17_5 p27 q27
                                                      cases e27
                                                      replace p27 := eq_true p27
                                                      replace q27 := eq_true q27
                                                      have p29 : 0 ≤ (x17_5 : Int) := of_decide_eq_true (by first | (with_reducible assumption) | assumption)
                                                      have q29 : x17_5 < (t18.length : Int) := of_decide_eq_true (by first | (with_reducible assumption) | assumption)
                                                      obtain ⟨ad29, e29, hx29_0, hx29_1⟩ := at_T35 (Kd.R_reads' HO_13.out).2.2 x17_5 p29 q29
                                                      obtain rfl : ad27 = ad29 := (by injection e29)
                                                      replace p29 := eq_true p29
                                                      replace q29 := eq_true q29
                                                      obtain ⟨Ao67, co67, eo67⟩ := Kd.R_slice HO_15.out
                                                      (first | subst eo67 | (injection eo67 with f1_ f2_ f3_; have f4_ := f1_.symm; have f5_ := f3_.symm; clear f1_ f2_ f3_; subst f4_; subst f5_))
                                                      refine start_ (n := 13) (S := fun w' => w'.cell? (ad27.add ((x17_5).toNat * 2)) = some (.string ((rd_T35 t18 x17_5).f0)) ∧ w'.cell? ⟨(ad27.add ((x17_5).toNat * 2)).block, (ad27.add ((x17_5).toNat * 2)).off + 1, none⟩ = some (.string ((rd_T35 t18 x17_5).f1)) ∧ w'.cell? (ad27.add ((x17_5).toNat * 2)) = some (.string ((rd_T35 t18 x17_5).f0)) ∧ w'.cell? ⟨(ad27.add ((x17_5).toNat * 2)).block, (ad27.add ((x17_5).toNat * 2)).off + 1, none⟩ = some (.string ((rd_T35 t18 x17_5).f1))) (ds := []) #[false, false, false, false, false, false, false, false, false, false, false, false, false] (by kernel_rfl) rfl rfl ⟨hx27_0, hx27_1, hx29_0, hx29_1⟩ (fun hHeld => ?_); refine with_tabW driftnetlaw16_LogfmtTwo.tab22 driftnetlaw16_LogfmtTwo.bits22 (fun HT_ HW_ => ?_)
                                                      generalize wr.drew = w66 at HO_9 HO_13 HO_15 HB hx27_0 hx27_1 hx29_0 hx29_1 hHeld ⊢
                                                      refine pure_ (i := 0) (N := some 118) (v := ?_) (a' := ?_) #[true, false, false, false, false, false, false, false, false, false, false, false, false] rfl rfl (any_of HT_.out (by kernel_rfl)) (fun _ _ _ h => h) (Or.inl ⟨by rfl, ?_⟩) ?_ ?_
                                                      rotate_left
                                                      · intro w'
                                                        go_simp
                                                        with_reducible rfl
                                                      rotate_left
                                                      · simp only [Act.put, List.setIfInBounds_toArray, List.set_cons_zero, List.set_cons_succ, i64_w, i32_w]
                                                        rfl
                                                      refine pure_ (i := 1) (N := some 119) (v := ?_) (a' := ?_) #[true, true, false, false, false, false, false, false, false, false, false, false, false] rfl rfl (any_of HT_.out (by kernel_rfl)) (fun _ _ _ h => h) (Or.inl ⟨by rfl, ?_⟩) ?_ ?_
                                                      rotate_left
                                                      · intro w'
                                                        go_simp
                                                        with_reducible rfl
                                                      rotate_left
                                                      · simp only [Act.put, List.setIfInBounds_toArray, List.set_cons_zero, List.set_cons_succ, i64_w, i32_w]
                                                        rfl
                                                      refine pure_ (i := 2) (N := some 120) (v := ?_) (a' := ?_) #[true, true, true, false, false, false, false, false, false, false, false, false, false] rfl rfl (any_of HT_.out (by kernel_rfl)) (fun _ _ _ h => h) (Or.inl ⟨by rfl, ?_⟩) ?_ ?_
                                                      rotate_left
                                                      · intro w'
                                                        go_simp
                                                        with_reducible rfl
                                                      rotate_left
                                                      · simp only [Act.put, List.setIfInBounds_toArray, List.set_cons_zero, List.set_cons_succ, i64_w, i32_w]
                                                        rfl
                                                      refine pure_ (i := 3) (N := some 121) (v := ?_) (a' := ?_) #[true, true, true, true, false, false, false, false, false, false, false, false, false] rfl rfl (any_of HT_.out (by kernel_rfl)) (fun _ _ _ h => h) (Or.inl ⟨by rfl, ?_⟩) ?_ ?_
                                                      rotate_left
                                                      · intro w'
                                                        go_simp
                                                        with_reducible rfl
                                                      rotate_left
                                                      · simp only [Act.put, List.setIfInBounds_toArray, List.set_cons_zero, List.set_cons_succ, i64_w, i32_w]
                                                        rfl
                                                      refine pure_ (i := 4) (N := some 122) (v := ?_) (a' := ?_) #[true, true, true, true, true, false, false, false, false, false, false, false, false] rfl rfl (any_of HT_.out (by kernel_rfl)) (fun _ _ _ h => h) (Or.inl ⟨by rfl, ?_⟩) ?_ ?_
                                                      rotate_left
                                                      · intro w'
                                                        go_simp
                                                        with_reducible rfl
                                                      rotate_left
                                                      · simp only [Act.put, List.setIfInBounds_toArray, List.set_cons_zero, List.set_cons_succ, i64_w, i32_w]
                                                        rfl
                                                      refine pure_ (i := 7) (N := some 125) (v := ?_) (a' := ?_) #[true, true, true, true, true, false, false, true, false, false, false, false, false] rfl rfl (any_of HT_.out (by kernel_rfl)) (fun _ _ _ h => h) (Or.inl ⟨by rfl, ?_⟩) ?_ ?_
                                                      rotate_left
                                                      · intro w'
                                                        go_simp
                                                        with_reducible rfl
                                                      rotate_left
                                                      · simp only [Act.put, List.setIfInBounds_toArray, List.set_cons_zero, List.set_cons_succ, i64_w, i32_w]
                                                        rfl
                                                      refine pure_ (i := 8) (N := some 126) (v := ?_) (a' := ?_) #[true, true, true, true, true, false, false, true, true, false, false, false, false] rfl rfl (any_of HT_.out (by kernel_rfl)) (fun _ _ _ h => h) (Or.inl ⟨by rfl, ?_⟩) ?_ ?_
                                                      rotate_left
                                                      · intro w'
                                                        go_simp
                                                        with_reducible rfl
                                                      rotate_left
                                                      · simp only [Act.put, List.setIfInBounds_toArray, List.set_cons_zero, List.set_cons_succ, i64_w, i32_w]
                                                        rfl
                                                      refine pure_ (i := 9) (N := some 127) (v := ?_) (a' := ?_) #[true, true, true, true, true, false, false, true, true, true, false, false, false] rfl rfl (any_of HT_.out (by kernel_rfl)) (fun _ _ _ h => h) (Or.inl ⟨by rfl, ?_⟩) ?_ ?_
                                                      rotate_left
                                                      · intro w'
                                                        go_simp
                                                        with_reducible rfl
                                                      rotate_left
                                                      · simp only [Act.put, List.setIfInBounds_toArray, List.set_cons_zero, List.set_cons_succ, i64_w, i32_w]
                                                        rfl
                                                      refine pure_ (i := 10) (N := some 128) (v := ?_) (a' := ?_) #[true, true, true, true, true, false, false, true, true, true, true, false, false] rfl rfl (any_of HT_.out (by kernel_rfl)) (fun _ _ _ h => h) (Or.inl ⟨by rfl, ?_⟩) ?_ ?_
                                                      rotate_left
                                                      · intro w'
                                                        go_simp
                                                        with_reducible rfl
                                                      rotate_left
                                                      · simp only [Act.put, List.setIfInBounds_toArray, List.set_cons_zero, List.set_cons_succ, i64_w, i32_w]
                                                        rfl
                                                      refine take_ (i := 5) (N := some 123) (v := ?_) (a' := ?_) #[true, true, true, true, true, true, false, true, true, true, true, false, false] rfl rfl (take_ofW HT_.out HW_.out (by kernel_rfl)) (fun _ _ _ h => h) (Or.inl ⟨by rfl, ?_⟩) hHeld ?_ ?_
                                                      rotate_left
                                                      · rintro w' ⟨s0, s1, s2, s3⟩
                                                        go_simp
                                                        with_reducible rfl
                                                      rotate_left
                                                      · simp only [Act.put, List.setIfInBounds_toArray, List.set_cons_zero, List.set_cons_succ, i64_w, i32_w]
                                                        rfl
                                                      refine take_ (i := 11) (N := some 129) (v := ?_) (a' := ?_) #[true, true, true, true, true, true, false, true, true, true, true, true, false] rfl rfl (take_ofW HT_.out HW_.out (by kernel_rfl)) (fun _ _ _ h => h) (Or.inl ⟨by rfl, ?_⟩) hHeld ?_ ?_
                                                      rotate_left
                                                      · rintro w' ⟨s0, s1, s2, s3⟩
                                                        go_simp
                                                        with_reducible rfl
                                                      rotate_left
                                                      · simp only [Act.put, List.setIfInBounds_toArray, List.set_cons_zero, List.set_cons_succ, i64_w, i32_w]
                                                        rfl
                                                      refine one_ (i := 6) (N := some 124) #[true, true, true, true, true, true, true, true, true, true, true, true, false] rfl rfl (one_of HT_.out (by kernel_rfl)) (by decide) (fun K hK => ?_)
                                                      refine goes_ Tryz.func16 (by kernel_rfl) rfl #[.slice Ao67 x15_3.length co67, .string ((rd_T35 t18 x17_5).f0)] (by rfl) rfl rfl (by (try simp only [List.map_toArray, List.map_cons, List.map_nil]); first | done | rfl | (simp only [List.length_drop, List.length_take]; rfl)) ?_
                                                      with_reducible refine (labels_Get.calls _ _ x15_3 ((rd_T35 t18 x17_5).f0) t28 _ ?side1 ?side2 A59.out).mono ?_
                                                      (case side1 => repeat (first | exact (Kd.R_reads' HO_15.out).2.2 | (with_reducible refine Kd.C_alloc ?_ _) | (with_reducible refine Kd.C_drewN ?_ _) | (with_reducible refine Kd.C_drew ?_)))
                                                      (case side2 => exact (Kd.R_reads' HO_15.out).2.1)
                                                      rintro e w68 ⟨rfl, hb⟩
                                                      have HS0_ := (hb.cell (World.block_lt_of_cell? _ _ (hHeld.1))).trans (hHeld.1)
                                                      have HS1_ := (hb.cell (World.block_lt_of_cell? _ _ (hHeld.2.1))).trans (hHeld.2.1)
                                                      have HS2_ := (hb.cell (World.block_lt_of_cell? _ _ (hHeld.2.2.1))).trans (hHeld.2.2.1)
                                                      have HS3_ := (hb.cell (World.block_lt_of_cell? _ _ (hHeld.2.2.2))).trans (hHeld.2.2.2)
                                                      refine ⟨_, rfl, ?_⟩
                                                      have n0_ := Aside0.mk (Kd.R_below (by (with_reducible repeat (first | apply Kd.R_alloc | apply Kd.R_drewN | apply Kd.R_drew)); exact HO_9.out) hb)
                                                      have n1_ := Aside0.mk (Kd.R_below (by (with_reducible repeat (first | apply Kd.R_alloc | apply Kd.R_drewN | apply Kd.R_drew)); exact HO_13.out) hb)
                                                      have n2_ := Aside0.mk (Kd.R_below (by (with_reducible repeat (first | apply Kd.R_alloc | apply Kd.R_drewN | apply Kd.R_drew)); exact HO_15.out) hb)
                                                      have n3_ := Aside0.mk (below_step (by repeat (first | (with_reducible first | exact HB.out | apply below_alloc | apply pw_below_drewN | apply below_drew1) | exact HB.out)) hb)
                                                      clear HO_9
                                                      clear HO_13
                                                      clear HO_15
                                                      clear HB
                                                      have HO_9 := n0_
                                                      have HO_13 := n1_
                                                      have HO_15 := n2_
                                                      have HB := n3_
                                                      clear n0_ n1_ n2_ n3_
                                                      (try clear hb)
                                                      (try clear hb2)
                                                      (try clear hk)
                                                      (try clear hi)
                                                      refine hK.out _ _ ⟨HS0_, HS1_, HS2_, HS3_⟩ (fun hHeld => ?_)
                                                      clear hK K
                                                      refine norm_ (a' := ?_) ?_ ?_
                                                      rotate_left
                                                      · show Act.put _ (some 124) _ = _
                                                        simp only [Act.put, List.setIfInBounds_toArray, List.set_cons_zero, List.set_cons_succ, i64_w, i32_w]
                                                        rfl
                                                      refine pure_ (i := 12) (N := some 130) (v := ?_) (a' := ?_) #[true, true, true, true, true, true, true, true, true, true, true, true, true] rfl rfl (any_of HT_.out (by kernel_rfl)) (fun _ _ _ h => h) (Or.inl ⟨by rfl, ?_⟩) ?_ ?_
                                                      rotate_left
                                                      · intro w'
                                                        go_simp
                                                        with_reducible rfl
                                                      rotate_left
                                                      · simp only [Act.put, List.setIfInBounds_toArray, List.set_cons_zero, List.set_cons_succ, i64_w, i32_w]
                                                        rfl
                                                      refine done_ (done_of HT_.out (by kernel_rfl)) ?_
                                                      try go_wp2
                                                      go_ret
                                                      exact ⟨by first | rfl | (simp [errW_none, errW_some] <;> rfl) | (simp only [← hji6, ← hji9]; first | rfl | (simp [errW_none, errW_some] <;> rfl)) | (simp [*, errW_none, errW_some] <;> rfl), by repeat (first | (with_reducible first | exact HB.out | apply below_alloc | apply pw_below_drewN | apply below_drew1) | exact HB.out)⟩
                                                  · rw [if_neg c58] at H
                                                    exact absurd H (by simp)
                                                · rw [if_neg c57] at H
                                                  have c57b0 : decide (x17_5 < (t18.length : Int)) = false := decide_eq_false c57
                                                  clear c57
                                                  have H' := Aside0.mk H
                                                  clear H
                                                  obtain ⟨Ao69, co69, eo69⟩ := Kd.R_slice HO_13.out
                                                  subst eo69
                                                  go_wp2
                                                  go_loopg [18] k5 (fun kq v18 w' => ∃ (x18_6 : Int), v18 = .int .i64 x18_6 ∧ Aside0 (driftnetlaw16_LogfmtTwo.l2 kq t6 t18 x18_6 = some r) ∧ Aside0 (kq ≤ k5) ∧ Aside0 (Kd.R k35 35 w' w.heap.size (fun k_ => some k_ ≠ ((.slice Ao69 t18.length co69) : Value).ownBlock) (.slice Ao52 t6.length co52) t6) ∧ Aside0 (Kd.R k35 35 w' w.heap.size (fun k_ => some k_ ≠ ((.slice Ao52 t6.length co52) : Value).ownBlock) (.slice Ao69 t18.length co69) t18) ∧ Aside0 (Below w.heap.size w w'))
                                                  case atStart => exact ⟨(0), (by first | rfl | (simp; done) | (simp [*]; done)), H', ⟨Nat.le_refl _⟩, ⟨by (with_reducible repeat (first | apply Kd.R_alloc | apply Kd.R_drewN | apply Kd.R_drew)); exact Kd.R_mono HO_9.out (fun _ hk => hk.1)⟩, ⟨by (with_reducible repeat (first | apply Kd.R_alloc | apply Kd.R_drewN | apply Kd.R_drew)); exact Kd.R_mono HO_13.out (fun _ hk => hk.1)⟩, ⟨by repeat (first | (with_reducible first | exact HB.out | apply below_alloc | apply pw_below_drewN | apply below_drew1) | exact HB.out)⟩⟩
                                                  case round =>
                                                    clear H'
                                                    try clear c1
                                                    try clear c2
                                                    try clear p2
                                                    try clear q2
                                                    try clear hx2
                                                    try clear c3
                                                    try clear c4
                                                    try clear c5
                                                    try clear c6
                                                    try clear p6
                                                    try clear c7
                                                    try clear c7b0
                                                    try clear c7b1
                                                    try clear c8
                                                    try clear c8b0
                                                    try clear c8b1
                                                    try clear c10
                                                    try clear c10b0
                                                    try clear c10b1
                                                    try clear c11
                                                    try clear c11b0
                                                    try clear c11b1
                                                    try clear c12
                                                    try clear c15
                                                    try clear c15b0
                                                    try clear c15b1
                                                    try clear c15b2
                                                    try clear c16
                                                    try clear c17
                                                    try clear c17b0
                                                    try clear c17b1
                                                    try clear c17b2
                                                    try clear p22
                                                    try clear q22
                                                    try clear hx22
                                                    try clear p23
                                                    try clear q23
                                                    try clear hx23
                                                    try clear c27
                                                    try clear c27b0
                                                    try clear c27b1
                                                    try clear c27b2
                                                    try clear p27
                                                    try clear q27
                                                    try clear hx27
                                                    try clear p29
                                                    try clear q29
                                                    try clear hx29
                                                    try clear c31
                                                    try clear c33
                                                    try clear c34
                                                    try clear c35
                                                    try clear c35b0
                                                    try clear c35b1
                                                    try clear c35b2
                                                    try clear c39
                                                    try clear c39b0
                                                    try clear c39b1
                                                    try clear c39b2
                                                    try clear c40
                                                    try clear c40b0
                                                    try clear c40b1
                                                    try clear c40b2
                                                    try clear c44
                                                    try clear c44b0
                                                    try clear c45
                                                    try clear c45b0
                                                    try clear c53
                                                    try clear c56
                                                    try clear c57
                                                    try clear c57b0
                                                    try clear c58
                                                    try clear c58b0
                                                    try clear c60
                                                    try clear c60b0
                                                    try clear c60b1
                                                    try clear p64
                                                    try clear hx22_0
                                                    try clear hx22_1
                                                    try clear hx23_0
                                                    try clear hx23_1
                                                    try clear hx27_0
                                                    try clear hx27_1
                                                    try clear hx29_0
                                                    try clear hx29_1
                                                    try clear p2
                                                    try clear p22
                                                    try clear p23
                                                    try clear p27
                                                    try clear p29
                                                    try clear p6
                                                    try clear q2
                                                    try clear q22
                                                    try clear q23
                                                    try clear q27
                                                    try clear q29
                                                    obtain ⟨x18_6, rfl, HA, HK6, HO_9, HO_13, HB⟩ := hrel
                                                    cases gk with
                                                    | zero => exact absurd HA.out (by simp [driftnetlaw16_LogfmtTwo.l2])
                                                    | succ k6 =>
                                                      have H := HA.out
                                                      clear HA
                                                      simp only [driftnetlaw16_LogfmtTwo.l2] at H
                                                      by_cases c70 : x18_6 < (t6.length : Int)
                                                      · rw [if_pos c70] at H
                                                        have c70b0 : decide (x18_6 < (t6.length : Int)) = true := decide_eq_true c70
                                                        clear c70
                                                        by_cases c71 : 0 ≤ x18_6
                                                        · rw [if_pos c71] at H
                                                          have c71b0 : decide (0 ≤ x18_6) = true := decide_eq_true c71
                                                          clear c71
                                                          replace H := Option.bind_eq_some_iff.mp H
                                                          obtain ⟨t31, A720, H⟩ := H
                                                          replace H : (if t31.toList = ((rd_T35 t6 x18_6).f1).toList then (driftnetlaw16_LogfmtTwo.l2 k6 t6 t18 (wrap64 (x18_6 + 1))) else (some false)) = some r := H
                                                          have A72 := Aside0.mk A720
                                                          clear A720
                                                          by_cases c73 : t31.toList = ((rd_T35 t6 x18_6).f1).toList
                                                          · rw [if_pos c73] at H
                                                            have c73b0 : (t31.toList == ((rd_T35 t6 x18_6).f1).toList) = true := beq_iff_eq.mpr c73
                                                            have c73b1 : (t31.toList != ((rd_T35 t6 x18_6).f1).toList) = false := bne_eq_false_iff_eq.mpr c73
                                                            clear c73
                                                            have H' := Aside0.mk H
                                                            clear H
                                                            try go_wp2
                                                            have n0_ := Aside0.mk (Kd.R_drew HO_9.out)
                                                            have n1_ := Aside0.mk (Kd.R_drew HO_13.out)
                                                            have n2_ := Aside0.mk (below_drew1 HB.out)
                                                            clear HO_9
                                                            clear HO_13
                                                            clear HB
                                                            have HO_9 := n0_
                                                            have HO_13 := n1_
                                                            have HB := n2_
                                                            clear n0_ n1_ n2_
                                                            have p30 : 0 ≤ (x18_6 : Int) := of_decide_eq_true (by first | (with_reducible assumption) | assumption)
                                                            have q30 : x18_6 < (t6.length : Int) := of_decide_eq_true (by first | (with_reducible assumption) | assumption)
                                                            obtain ⟨ad30, e30, hx30_0, hx30_1⟩ := at_T35 (Kd.R_reads' HO_9.out).2.2 x18_6 p30 q30
                                                            cases e30
                                                            replace p30 := eq_true p30
                                                            replace q30 := eq_true q30
                                                            have p32 : 0 ≤ (x18_6 : Int) := of_decide_eq_true (by first | (with_reducible assumption) | assumption)
                                                            have q32 : x18_6 < (t6.length : Int) := of_decide_eq_true (by first | (with_reducible assumption) | assumption)
                                                            obtain ⟨ad32, e32, hx32_0, hx32_1⟩ := at_T35 (Kd.R_reads' HO_9.out).2.2 x18_6 p32 q32
                                                            obtain rfl : ad30 = ad32 := (by injection e32)
                                                            replace p32 := eq_true p32
                                                            replace q32 := eq_true q32
                                                            refine start_ (n := 13) (S := fun w' => w'.cell? (ad30.add ((x18_6).toNat * 2)) = some (.string ((rd_T35 t6 x18_6).f0)) ∧ w'.cell? ⟨(ad30.add ((x18_6).toNat * 2)).block, (ad30.add ((x18_6).toNat * 2)).off + 1, none⟩ = some (.string ((rd_T35 t6 x18_6).f1)) ∧ w'.cell? (ad30.add ((x18_6).toNat * 2)) = some (.string ((rd_T35 t6 x18_6).f0)) ∧ w'.cell? ⟨(ad30.add ((x18_6).toNat * 2)).block, (ad30.add ((x18_6).toNat * 2)).off + 1, none⟩ = some (.string ((rd_T35 t6 x18_6).f1))) (ds := []) #[false, false, false, false, false, false, false, false, false, false, false, false, false] (by kernel_rfl) rfl rfl ⟨hx30_0, hx30_1, hx32_0, hx32_1⟩ (fun hHeld => ?_); refine with_tabW driftnetlaw16_LogfmtTwo.tab27 driftnetlaw16_LogfmtTwo.bits27 (fun HT_ HW_ => ?_)
                                                            generalize wr.drew = w74 at HO_9 HO_13 HB hx30_0 hx30_1 hx32_0 hx32_1 hHeld ⊢
                                                            refine pure_ (i := 0) (N := some 137) (v := ?_) (a' := ?_) #[true, false, false, false, false, false, false, false, false, false, false, false, false] rfl rfl (any_of HT_.out (by kernel_rfl)) (fun _ _ _ h => h) (Or.inl ⟨by rfl, ?_⟩) ?_ ?_
                                                            rotate_left
                                                            · intro w'
                                                              go_simp
                                                              with_reducible rfl
                                                            rotate_left
                                                            · simp only [Act.put, List.setIfInBounds_toArray, List.set_cons_zero, List.set_cons_succ, i64_w, i32_w]
                                                              rfl
                                                            refine pure_ (i := 1) (N := some 138) (v := ?_) (a' := ?_) #[true, true, false, false, false, false, false, false, false, false, false, false, false] rfl rfl (any_of HT_.out (by kernel_rfl)) (fun _ _ _ h => h) (Or.inl ⟨by rfl, ?_⟩) ?_ ?_
                                                            rotate_left
                                                            · intro w'
                                                              go_simp
                                                              with_reducible rfl
                                                            rotate_left
                                                            · simp only [Act.put, List.setIfInBounds_toArray, List.set_cons_zero, List.set_cons_succ, i64_w, i32_w]
                                                              rfl
                                                            refine pure_ (i := 2) (N := some 139) (v := ?_) (a' := ?_) #[true, true, true, false, false, false, false, false, false, false, false, false, false] rfl rfl (any_of HT_.out (by kernel_rfl)) (fun _ _ _ h => h) (Or.inl ⟨by rfl, ?_⟩) ?_ ?_
                                                            rotate_left
                                                            · intro w'
                                                              go_simp
                                                              with_reducible rfl
                                                            rotate_left
                                                            · simp only [Act.put, List.setIfInBounds_toArray, List.set_cons_zero, List.set_cons_succ, i64_w, i32_w]
                                                              rfl
                                                            refine pure_ (i := 3) (N := some 140) (v := ?_) (a' := ?_) #[true, true, true, true, false, false, false, false, false, false, false, false, false] rfl rfl (any_of HT_.out (by kernel_rfl)) (fun _ _ _ h => h) (Or.inl ⟨by rfl, ?_⟩) ?_ ?_
                                                            rotate_left
                                                            · intro w'
                                                              go_simp
                                                              with_reducible rfl
                                                            rotate_left
                                                            · simp only [Act.put, List.setIfInBounds_toArray, List.set_cons_zero, List.set_cons_succ, i64_w, i32_w]
                                                              rfl
                                                            refine pure_ (i := 4) (N := some 141) (v := ?_) (a' := ?_) #[true, true, true, true, true, false, false, false, false, false, false, false, false] rfl rfl (any_of HT_.out (by kernel_rfl)) (fun _ _ _ h => h) (Or.inl ⟨by rfl, ?_⟩) ?_ ?_
                                                            rotate_left
                                                            · intro w'
                                                              go_simp
                                                              with_reducible rfl
                                                            rotate_left
                                                            · simp only [Act.put, List.setIfInBounds_toArray, List.set_cons_zero, List.set_cons_succ, i64_w, i32_w]
                                                              rfl
                                                            refine pure_ (i := 7) (N := some 144) (v := ?_) (a' := ?_) #[true, true, true, true, true, false, false, true, false, false, false, false, false] rfl rfl (any_of HT_.out (by kernel_rfl)) (fun _ _ _ h => h) (Or.inl ⟨by rfl, ?_⟩) ?_ ?_
                                                            rotate_left
                                                            · intro w'
                                                              go_simp
                                                              with_reducible rfl
                                                            rotate_left
                                                            · simp only [Act.put, List.setIfInBounds_toArray, List.set_cons_zero, List.set_cons_succ, i64_w, i32_w]
                                                              rfl
                                                            refine pure_ (i := 8) (N := some 145) (v := ?_) (a' := ?_) #[true, true, true, true, true, false, false, true, true, false, false, false, false] rfl rfl (any_of HT_.out (by kernel_rfl)) (fun _ _ _ h => h) (Or.inl ⟨by rfl, ?_⟩) ?_ ?_
                                                            rotate_left
                                                            · intro w'
                                                              go_simp
                                                              with_reducible rfl
                                                            rotate_left
                                                            · simp only [Act.put, List.setIfInBounds_toArray, List.set_cons_zero, List.set_cons_succ, i64_w, i32_w]
                                                              rfl
                                                            refine pure_ (i := 9) (N := some 146) (v := ?_) (a' := ?_) #[true, true, true, true, true, false, false, true, true, true, false, false, false] rfl rfl (any_of HT_.out (by kernel_rfl)) (fun _ _ _ h => h) (Or.inl ⟨by rfl, ?_⟩) ?_ ?_
                                                            rotate_left
                                                            · intro w'
                                                              go_simp
                                                              with_reducible rfl
                                                            rotate_left
                                                            · simp only [Act.put, List.setIfInBounds_toArray, List.set_cons_zero, List.set_cons_succ, i64_w, i32_w]
                                                              rfl
                                                            refine pure_ (i := 10) (N := some 147) (v := ?_) (a' := ?_) #[true, true, true, true, true, false, false, true, true, true, true, false, false] rfl rfl (any_of HT_.out (by kernel_rfl)) (fun _ _ _ h => h) (Or.inl ⟨by rfl, ?_⟩) ?_ ?_
                                                            rotate_left
                                                            · intro w'
                                                              go_simp
                                                              with_reducible rfl
                                                            rotate_left
                                                            · simp only [Act.put, List.setIfInBounds_toArray, List.set_cons_zero, List.set_cons_succ, i64_w, i32_w]
                                                              rfl
                                                            refine take_ (i := 5) (N := some 142) (v := ?_) (a' := ?_) #[true, true, true, true, true, true, false, true, true, true, true, false, false] rfl rfl (take_ofW HT_.out HW_.out (by kernel_rfl)) (fun _ _ _ h => h) (Or.inl ⟨by rfl, ?_⟩) hHeld ?_ ?_
                                                            rotate_left
                                                            · rintro w' ⟨s0, s1, s2, s3⟩
                                                              go_simp
                                                              with_reducible rfl
                                                            rotate_left
                                                            · simp only [Act.put, List.setIfInBounds_toArray, List.set_cons_zero, List.set_cons_succ, i64_w, i32_w]
                                                              rfl
                                                            refine take_ (i := 11) (N := some 148) (v := ?_) (a' := ?_) #[true, true, true, true, true, true, false, true, true, true, true, true, false] rfl rfl (take_ofW HT_.out HW_.out (by kernel_rfl)) (fun _ _ _ h => h) (Or.inl ⟨by rfl, ?_⟩) hHeld ?_ ?_
                                                            rotate_left
                                                            · rintro w' ⟨s0, s1, s2, s3⟩
                                                              go_simp
                                                              with_reducible rfl
                                                            rotate_left
                                                            · simp only [Act.put, List.setIfInBounds_toArray, List.set_cons_zero, List.set_cons_succ, i64_w, i32_w]
                                                              rfl
                                                            refine one_ (i := 6) (N := some 143) #[true, true, true, true, true, true, true, true, true, true, true, true, false] rfl rfl (one_of HT_.out (by kernel_rfl)) (by decide) (fun K hK => ?_)
                                                            refine goes_ Tryz.func16 (by kernel_rfl) rfl #[.slice Ao69 t18.length co69, .string ((rd_T35 t6 x18_6).f0)] (by rfl) rfl rfl (by (try simp only [List.map_toArray, List.map_cons, List.map_nil]); first | done | rfl | (simp only [List.length_drop, List.length_take]; rfl)) ?_
                                                            with_reducible refine (labels_Get.calls _ _ t18 ((rd_T35 t6 x18_6).f0) t31 _ ?side1 ?side2 A72.out).mono ?_
                                                            (case side1 => repeat (first | exact (Kd.R_reads' HO_13.out).2.2 | (with_reducible refine Kd.C_alloc ?_ _) | (with_reducible refine Kd.C_drewN ?_ _) | (with_reducible refine Kd.C_drew ?_)))
                                                            (case side2 => exact (Kd.R_reads' HO_13.out).2.1)
                                                            rintro e w75 ⟨rfl, hb⟩
                                                            have HS0_ := (hb.cell (World.block_lt_of_cell? _ _ (hHeld.1))).trans (hHeld.1)
                                                            have HS1_ := (hb.cell (World.block_lt_of_cell? _ _ (hHeld.2.1))).trans (hHeld.2.1)
                                                            have HS2_ := (hb.cell (World.block_lt_of_cell? _ _ (hHeld.2.2.1))).trans (hHeld.2.2.1)
                                                            have HS3_ := (hb.cell (World.block_lt_of_cell? _ _ (hHeld.2.2.2))).trans (hHeld.2.2.2)
                                                            refine ⟨_, rfl, ?_⟩
                                                            have n0_ := Aside0.mk (Kd.R_below (by (with_reducible repeat (first | apply Kd.R_alloc | apply Kd.R_drewN | apply Kd.R_drew)); exact HO_9.out) hb)
                                                            have n1_ := Aside0.mk (Kd.R_below (by (with_reducible repeat (first | apply Kd.R_alloc | apply Kd.R_drewN | apply Kd.R_drew)); exact HO_13.out) hb)
                                                            have n2_ := Aside0.mk (below_step (by repeat (first | (with_reducible first | exact HB.out | apply below_alloc | apply pw_below_drewN | apply below_drew1) | exact HB.out)) hb)
                                                            clear HO_9
                                                            clear HO_13
                                                            clear HB
                                                            have HO_9 := n0_
                                                            have HO_13 := n1_
                                                            have HB := n2_
                                                            clear n0_ n1_ n2_
                                                            (try clear hb)
                                                            (try clear hb2)
                                                            (try clear hk)
                                                            (try clear hi)
                                                            refine hK.out _ _ ⟨HS0_, HS1_, HS2_, HS3_⟩ (fun hHeld => ?_)
                                                            clear hK K
                                                            refine norm_ (a' := ?_) ?_ ?_
                                                            rotate_left
                                                            · show Act.put _ (some 143) _ = _
                                                              simp only [Act.put, List.setIfInBounds_toArray, List.set_cons_zero, List.set_cons_succ, i64_w, i32_w]
                                                              rfl
                                                            refine pure_ (i := 12) (N := some 149) (v := ?_) (a' := ?_) #[true, true, true, true, true, true, true, true, true, true, true, true, true] rfl rfl (any_of HT_.out (by kernel_rfl)) (fun _ _ _ h => h) (Or.inl ⟨by rfl, ?_⟩) ?_ ?_
                                                            rotate_left
                                                            · intro w'
                                                              go_simp
                                                              with_reducible rfl
                                                            rotate_left
                                                            · simp only [Act.put, List.setIfInBounds_toArray, List.set_cons_zero, List.set_cons_succ, i64_w, i32_w]
                                                              rfl
                                                            refine done_ (done_of HT_.out (by kernel_rfl)) ?_
                                                            try go_wp2
                                                            go_roundg k6
                                                            case measure => have := HJ18.out; have := HJ31.out; have := HK3.out; have := HJ50.out; have := HK5.out; have := HK6.out; omega
                                                            case rel => exact ⟨(wrap64 (x18_6 + 1)), (by first | rfl | (simp; done) | (simp [*]; done)), H', ⟨by have := HJ18.out; have := HJ31.out; have := HK3.out; have := HJ50.out; have := HK5.out; have := HK6.out; omega⟩, ⟨by (with_reducible repeat (first | apply Kd.R_alloc | apply Kd.R_drewN | apply Kd.R_drew)); exact HO_9.out⟩, ⟨by (with_reducible repeat (first | apply Kd.R_alloc | apply Kd.R_drewN | apply Kd.R_drew)); exact HO_13.out⟩, ⟨by repeat (first | (with_reducible first | exact HB.out | apply below_alloc | apply pw_below_drewN | apply below_drew1) | exact HB.out)⟩⟩
                                                          · rw [if_neg c73] at H
                                                            have c73b0 : (t31.toList == ((rd_T35 t6 x18_6).f1).toList) = false := beq_eq_false_iff_ne.mpr c73
                                                            have c73b1 : (t31.toList != ((rd_T35 t6 x18_6).f1).toList) = true := bne_iff_ne.mpr c73
                                                            obtain rfl := Option.some.inj H
                                                            try go_wp2
                                                            have n0_ := Aside0.mk (Kd.R_drew HO_9.out)
                                                            have n1_ := Aside0.mk (Kd.R_drew HO_13.out)
                                                            have n2_ := Aside0.mk (below_drew1 HB.out)
                                                            clear HO_9
                                                            clear HO_13
                                                            clear HB
                                                            have HO_9 := n0_
                                                            have HO_13 := n1_
                                                            have HB := n2_
                                                            clear n0_ n1_ n2_
                                                            have p30 : 0 ≤ (x18_6 : Int) := of_decide_eq_true (by first | (with_reducible assumption) | assumption)
                                                            have q30 : x18_6 < (t6.length : Int) := of_decide_eq_true (by first | (with_reducible assumption) | assumption)
                                                            obtain ⟨ad30, e30, hx30_0, hx30_1⟩ := at_T35 (Kd.R_reads' HO_9.out).2.2 x18_6 p30 q30
                                                            cases e30
                                                            replace p30 := eq_true p30
                                                            replace q30 := eq_true q30
                                                            have p32 : 0 ≤ (x18_6 : Int) := of_decide_eq_true (by first | (with_reducible assumption) | assumption)
                                                            have q32 : x18_6 < (t6.length : Int) := of_decide_eq_true (by first | (with_reducible assumption) | assumption)
                                                            obtain ⟨ad32, e32, hx32_0, hx32_1⟩ := at_T35 (Kd.R_reads' HO_9.out).2.2 x18_6 p32 q32
                                                            obtain rfl : ad30 = ad32 := (by injection e32)
                                                            replace p32 := eq_true p32
                                                            replace q32 := eq_true q32
                                                            refine start_ (n := 13) (S := fun w' => w'.cell? (ad30.add ((x18_6).toNat * 2)) = some (.string ((rd_T35 t6 x18_6).f0)) ∧ w'.cell? ⟨(ad30.add ((x18_6).toNat * 2)).block, (ad30.add ((x18_6).toNat * 2)).off + 1, none⟩ = some (.string ((rd_T35 t6 x18_6).f1)) ∧ w'.cell? (ad30.add ((x18_6).toNat * 2)) = some (.string ((rd_T35 t6 x18_6).f0)) ∧ w'.cell? ⟨(ad30.add ((x18_6).toNat * 2)).block, (ad30.add ((x18_6).toNat * 2)).off + 1, none⟩ = some (.string ((rd_T35 t6 x18_6).f1))) (ds := []) #[false, false, false, false, false, false, false, false, false, false, false, false, false] (by kernel_rfl) rfl rfl ⟨hx30_0, hx30_1, hx32_0, hx32_1⟩ (fun hHeld => ?_); refine with_tabW driftnetlaw16_LogfmtTwo.tab27 driftnetlaw16_LogfmtTwo.bits27 (fun HT_ HW_ => ?_)
                                                            generalize wr.drew = w76 at HO_9 HO_13 HB hx30_0 hx30_1 hx32_0 hx32_1 hHeld ⊢
                                                            refine pure_ (i := 0) (N := some 137) (v := ?_) (a' := ?_) #[true, false, false, false, false, false, false, false, false, false, false, false, false] rfl rfl (any_of HT_.out (by kernel_rfl)) (fun _ _ _ h => h) (Or.inl ⟨by rfl, ?_⟩) ?_ ?_
                                                            rotate_left
                                                            · intro w'
                                                              go_simp
                                                              with_reducible rfl
                                                            rotate_left
                                                            · simp only [Act.put, List.setIfInBounds_toArray, List.set_cons_zero, List.set_cons_succ, i64_w, i32_w]
                                                              rfl
                                                            refine pure_ (i := 1) (N := some 138) (v := ?_) (a' := ?_) #[true, true, false, false, false, false, false, false, false, false, false, false, false] rfl rfl (any_of HT_.out (by kernel_rfl)) (fun _ _ _ h => h) (Or.inl ⟨by rfl, ?_⟩) ?_ ?_
                                                            rotate_left
                                                            · intro w'
                                                              go_simp
                                                              with_reducible rfl
                                                            rotate_left
                                                            · simp only [Act.put, List.setIfInBounds_toArray, List.set_cons_zero, List.set_cons_succ, i64_w, i32_w]
                                                              rfl
                                                            refine pure_ (i := 2) (N := some 139) (v := ?_) (a' := ?_) #[true, true, true, false, false, false, false, false, false, false, false, false, false] rfl rfl (any_of HT_.out (by kernel_rfl)) (fun _ _ _ h => h) (Or.inl ⟨by rfl, ?_⟩) ?_ ?_
                                                            rotate_left
                                                            · intro w'
                                                              go_simp
                                                              with_reducible rfl
                                                            rotate_left
                                                            · simp only [Act.put, List.setIfInBounds_toArray, List.set_cons_zero, List.set_cons_succ, i64_w, i32_w]
                                                              rfl
                                                            refine pure_ (i := 3) (N := some 140) (v := ?_) (a' := ?_) #[true, true, true, true, false, false, false, false, false, false, false, false, false] rfl rfl (any_of HT_.out (by kernel_rfl)) (fun _ _ _ h => h) (Or.inl ⟨by rfl, ?_⟩) ?_ ?_
                                                            rotate_left
                                                            · intro w'
                                                              go_simp
                                                              with_reducible rfl
                                                            rotate_left
                                                            · simp only [Act.put, List.setIfInBounds_toArray, List.set_cons_zero, List.set_cons_succ, i64_w, i32_w]
                                                              rfl
                                                            refine pure_ (i := 4) (N := some 141) (v := ?_) (a' := ?_) #[true, true, true, true, true, false, false, false, false, false, false, false, false] rfl rfl (any_of HT_.out (by kernel_rfl)) (fun _ _ _ h => h) (Or.inl ⟨by rfl, ?_⟩) ?_ ?_
                                                            rotate_left
                                                            · intro w'
                                                              go_simp
                                                              with_reducible rfl
                                                            rotate_left
                                                            · simp only [Act.put, List.setIfInBounds_toArray, List.set_cons_zero, List.set_cons_succ, i64_w, i32_w]
                                                              rfl
                                                            refine pure_ (i := 7) (N := some 144) (v := ?_) (a' := ?_) #[true, true, true, true, true, false, false, true, false, false, false, false, false] rfl rfl (any_of HT_.out (by kernel_rfl)) (fun _ _ _ h => h) (Or.inl ⟨by rfl, ?_⟩) ?_ ?_
                                                            rotate_left
                                                            · intro w'
                                                              go_simp
                                                              with_reducible rfl
                                                            rotate_left
                                                            · simp only [Act.put, List.setIfInBounds_toArray, List.set_cons_zero, List.set_cons_succ, i64_w, i32_w]
                                                              rfl
                                                            refine pure_ (i := 8) (N := some 145) (v := ?_) (a' := ?_) #[true, true, true, true, true, false, false, true, true, false, false, false, false] rfl rfl (any_of HT_.out (by kernel_rfl)) (fun _ _ _ h => h) (Or.inl ⟨by rfl, ?_⟩) ?_ ?_
                                                            rotate_left
                                                            · intro w'
                                                              go_simp
                                                              with_reducible rfl
                                                            rotate_left
                                                            · simp only [Act.put, List.setIfInBounds_toArray, List.set_cons_zero, List.set_cons_succ, i64_w, i32_w]
                                                              rfl
                                                            refine pure_ (i := 9) (N := some 146) (v := ?_) (a' := ?_) #[true, true, true, true, true, false, false, true, true, true, false, false, false] rfl rfl (any_of HT_.out (by kernel_rfl)) (fun _ _ _ h => h) (Or.inl ⟨by rfl, ?_⟩) ?_ ?_
                                                            rotate_left
                                                            · intro w'
                                                              go_simp
                                                              with_reducible rfl
                                                            rotate_left
                                                            · simp only [Act.put, List.setIfInBounds_toArray, List.set_cons_zero, List.set_cons_succ, i64_w, i32_w]
                                                              rfl
                                                            refine pure_ (i := 10) (N := some 147) (v := ?_) (a' := ?_) #[true, true, true, true, true, false, false, true, true, true, true, false, false] rfl rfl (any_of HT_.out (by kernel_rfl)) (fun _ _ _ h => h) (Or.inl ⟨by rfl, ?_⟩) ?_ ?_
                                                            rotate_left
                                                            · intro w'
                                                              go_simp
                                                              with_reducible rfl
                                                            rotate_left
                                                            · simp only [Act.put, List.setIfInBounds_toArray, List.set_cons_zero, List.set_cons_succ, i64_w, i32_w]
                                                              rfl
                                                            refine take_ (i := 5) (N := some 142) (v := ?_) (a' := ?_) #[true, true, true, true, true, true, false, true, true, true, true, false, false] rfl rfl (take_ofW HT_.out HW_.out (by kernel_rfl)) (fun _ _ _ h => h) (Or.inl ⟨by rfl, ?_⟩) hHeld ?_ ?_
                                                            rotate_left
                                                            · rintro w' ⟨s0, s1, s2, s3⟩
                                                              go_simp
                                                              with_reducible rfl
                                                            rotate_left
                                                            · simp only [Act.put, List.setIfInBounds_toArray, List.set_cons_zero, List.set_cons_succ, i64_w, i32_w]
                                                              rfl
                                                            refine take_ (i := 11) (N := some 148) (v := ?_) (a' := ?_) #[true, true, true, true, true, true, false, true, true, true, true, true, false] rfl rfl (take_ofW HT_.out HW_.out (by kernel_rfl)) (fun _ _ _ h => h) (Or.inl ⟨by rfl, ?_⟩) hHeld ?_ ?_
                                                            rotate_left
                                                            · rintro w' ⟨s0, s1, s2, s3⟩
                                                              go_simp
                                                              with_reducible rfl
                                                            rotate_left
                                                            · simp only [Act.put, List.setIfInBounds_toArray, List.set_cons_zero, List.set_cons_succ, i64_w, i32_w]
                                                              rfl
                                                            refine one_ (i := 6) (N := some 143) #[true, true, true, true, true, true, true, true, true, true, true, true, false] rfl rfl (one_of HT_.out (by kernel_rfl)) (by decide) (fun K hK => ?_)
                                                            refine goes_ Tryz.func16 (by kernel_rfl) rfl #[.slice Ao69 t18.length co69, .string ((rd_T35 t6 x18_6).f0)] (by rfl) rfl rfl (by (try simp only [List.map_toArray, List.map_cons, List.map_nil]); first | done | rfl | (simp only [List.length_drop, List.length_take]; rfl)) ?_
                                                            with_reducible refine (labels_Get.calls _ _ t18 ((rd_T35 t6 x18_6).f0) t31 _ ?side1 ?side2 A72.out).mono ?_
                                                            (case side1 => repeat (first | exact (Kd.R_reads' HO_13.out).2.2 | (with_reducible refine Kd.C_alloc ?_ _) | (with_reducible refine Kd.C_drewN ?_ _) | (with_reducible refine Kd.C_drew ?_)))
                                                            (case side2 => exact (Kd.R_reads' HO_13.out).2.1)
                                                            rintro e w77 ⟨rfl, hb⟩
                                                            have HS0_ := (hb.cell (World.block_lt_of_cell? _ _ (hHeld.1))).trans (hHeld.1)
                                                            have HS1_ := (hb.cell (World.block_lt_of_cell? _ _ (hHeld.2.1))).trans (hHeld.2.1)
                                                            have HS2_ := (hb.cell (World.block_lt_of_cell? _ _ (hHeld.2.2.1))).trans (hHeld.2.2.1)
                                                            have HS3_ := (hb.cell (World.block_lt_of_cell? _ _ (hHeld.2.2.2))).trans (hHeld.2.2.2)
                                                            refine ⟨_, rfl, ?_⟩
                                                            have n0_ := Aside0.mk (Kd.R_below (by (with_reducible repeat (first | apply Kd.R_alloc | apply Kd.R_drewN | apply Kd.R_drew)); exact HO_9.out) hb)
                                                            have n1_ := Aside0.mk (Kd.R_below (by (with_reducible repeat (first | apply Kd.R_alloc | apply Kd.R_drewN | apply Kd.R_drew)); exact HO_13.out) hb)
                                                            have n2_ := Aside0.mk (below_step (by repeat (first | (with_reducible first | exact HB.out | apply below_alloc | apply pw_below_drewN | apply below_drew1) | exact HB.out)) hb)
                                                            clear HO_9
                                                            clear HO_13
                                                            clear HB
                                                            have HO_9 := n0_
                                                            have HO_13 := n1_
                                                            have HB := n2_
                                                            clear n0_ n1_ n2_
                                                            (try clear hb)
                                                            (try clear hb2)
                                                            (try clear hk)
                                                            (try clear hi)
                                                            refine hK.out _ _ ⟨HS0_, HS1_, HS2_, HS3_⟩ (fun hHeld => ?_)
                                                            clear hK K
                                                            refine norm_ (a' := ?_) ?_ ?_
                                                            rotate_left
                                                            · show Act.put _ (some 143) _ = _
                                                              simp only [Act.put, List.setIfInBounds_toArray, List.set_cons_zero, List.set_cons_succ, i64_w, i32_w]
                                                              rfl
                                                            refine pure_ (i := 12) (N := some 149) (v := ?_) (a' := ?_) #[true, true, true, true, true, true, true, true, true, true, true, true, true] rfl rfl (any_of HT_.out (by kernel_rfl)) (fun _ _ _ h => h) (Or.inl ⟨by rfl, ?_⟩) ?_ ?_
                                                            rotate_left
                                                            · intro w'
                                                              go_simp
                                                              with_reducible rfl
                                                            rotate_left
                                                            · simp only [Act.put, List.setIfInBounds_toArray, List.set_cons_zero, List.set_cons_succ, i64_w, i32_w]
                                                              rfl
                                                            refine done_ (done_of HT_.out (by kernel_rfl)) ?_
                                                            try go_wp2
                                                            go_ret
                                                            exact ⟨by first | rfl | (simp [errW_none, errW_some] <;> rfl) | (simp only [← hji6, ← hji9]; first | rfl | (simp [errW_none, errW_some] <;> rfl)) | (simp [*, errW_none, errW_some] <;> rfl), by repeat (first | (with_reducible first | exact HB.out | apply below_alloc | apply pw_below_drewN | apply below_drew1) | exact HB.out)⟩
                                                        · rw [if_neg c71] at H
                                                          exact absurd H (by simp)
                                                      · rw [if_neg c70] at H
                                                        have c70b0 : decide (x18_6 < (t6.length : Int)) = false := decide_eq_false c70
                                                        clear c70
                                                        obtain rfl := Option.some.inj H
                                                        go_wp2
                                                        go_ret
                                                        exact ⟨by first | rfl | (simp [errW_none, errW_some] <;> rfl) | (simp only [← hji6, ← hji9]; first | rfl | (simp [errW_none, errW_some] <;> rfl)) | (simp [*, errW_none, errW_some] <;> rfl), by repeat (first | (with_reducible first | exact HB.out | apply below_alloc | apply pw_below_drewN | apply below_drew1) | exact HB.out)⟩
                              · rw [if_neg c40] at H
                                exact absurd H (by simp)
                            · rw [if_neg c39] at H
                              exact absurd H (by simp)
              · rw [if_neg c17] at H
                exact absurd H (by simp)
            · rw [if_neg c15] at H
              exact absurd H (by simp)
          · rw [if_neg c11] at H
            exact absurd H (by simp)
        · rw [if_neg c10] at H
          exact absurd H (by simp)
      · rw [if_neg c8] at H
        exact absurd H (by simp)
    · rw [if_neg c7] at H
      exact absurd H (by simp)
  · replace c5 := Bool.eq_false_iff.mpr c5
    subst c5
    have H1 : (some false) = some r := by rw [if_neg (show ¬ (false = true) by decide)] at H; exact H
    clear H
    have H := H1
    clear H1
    obtain rfl := Option.some.inj H
    go_enter Tryz.func6, Tryz.ntmps6
    go_wp2_with (first | ((with_reducible refine gate_callee (f := 11) rfl ?_); refine goesL_ (some 19) rfl rfl Tryz.func11 (by kernel_rfl) rfl #[] rfl (by (try simp only [List.map_toArray, List.map_cons, List.map_nil]); first | done | rfl | (simp only [List.length_drop, List.length_take]; rfl)) ?_; (with_reducible refine (driftnetlaw16_works.calls k  false _ ?side1 A4.out).mono ?_); (case side1 => exact G.at hG.out (by repeat (first | (with_reducible first | exact HB.out | apply below_alloc | apply pw_below_drewN | apply below_drew1) | exact HB.out))); rintro e w78 ⟨rfl, hb⟩; refine ⟨_, rfl, ?_⟩; have n0_ := Aside0.mk (below_step (by repeat (first | (with_reducible first | exact HB.out | apply below_alloc | apply pw_below_drewN | apply below_drew1) | exact HB.out)) hb); clear HB; have HB := n0_; clear n0_; (try clear hb); (try clear hb2); (try clear hk); (try clear hi)))
    go_ret
    exact ⟨by first | rfl | (simp [errW_none, errW_some] <;> rfl) | (simp [*, errW_none, errW_some] <;> rfl), by repeat (first | (with_reducible first | exact HB.out | apply below_alloc | apply pw_below_drewN | apply below_drew1) | exact HB.out)⟩

/-- THE ONE PURE STATEMENT of driftnetlaw16_LogfmtTwo: yours. -/
def driftnetlaw16_LogfmtTwo.Pure : Prop := ∀ (a0 : ByteArray) (a1 : ByteArray) (a2 : Int), a0.size ≤ 140737488351232 → a1.size ≤ 140737488351232 → (Lit.int .i64 a2).wf = true → ∃ k, driftnetlaw16_LogfmtTwo.f k a0 a1 a2 = some true
theorem driftnetlaw16_LogfmtTwo.walk (P : driftnetlaw16_LogfmtTwo.Pure) (a0 : ByteArray) (a1 : ByteArray) (a2 : Int) (w : World) (hG : Aside0 (G w)) (w0 : a0.size ≤ 140737488351232) (w1 : a1.size ≤ 140737488351232) (w2 : (Lit.int .i64 a2).wf = true) :
    Calls Tryz.prog 6 #[.string a0, .string a1, .int .i64 a2] w fun e w' => e = .returned (.bool true) ∧ Below w.heap.size w w' := by
  obtain ⟨k, h⟩ := P a0 a1 a2 w0 w1 w2
  refine (driftnetlaw16_LogfmtTwo.calls k a0 a1 a2 true w hG h).mono ?_
  rintro e w' ⟨rfl, hd⟩
  exact ⟨rfl, hd⟩

end Go.Proofs.YtnmofpefofkoeaaGreatDoor.P
