/- LexBack: tokens, written one behind the other with blanks between, are cut as they were, each where it stands; its tied card, of all lists of tokens and all blanks, under the row's own list of laid variables. -/
import Derived.Test.YtioofhilohmfbaaGreatDoorZBack5
set_option linter.unusedVariables false
set_option linter.unusedSimpArgs false
set_option maxRecDepth 100000
set_option maxHeartbeats 8000000
open Go.Proofs Go.Proofs.YtioofhilohmfbaaGreatDoorW
section
open Go.RowKit PrintWords PrintLast PrintMore
namespace Go.Proofs.YtioofhilohmfbaaGreatDoor.P
attribute [local go_sem] za3 za4 zbh zbi zaT zaU za5 za6 zbn
def zaj.l0 : Nat → ByteArray → Int → Int → ByteArray → Int → Option (ByteArray × Int × ByteArray × Int)
 | 0, _, _, _, _, _ => none
 | k + 1, x5, x6, x2000, x2001, x2002 => if x6 < (x2001.size : Int) then (if x6 < 12 then (if 0 ≤ x6 then ((some (([(97 + (Int.tmod (bt x2001 x6) 26)) % 256] : List Int) : List Int)).bind fun y7 => (if x5.size + (strOfNums y7).size ≤ 9223372036854775807 then (zaj.l0 k (x5 ++ (strOfNums y7)) (wrap64 (x6 + 1)) x2000 x2001 x2002) else (none))) else (none)) else (if x5.size + 1 ≤ 9223372036854775807 then (some (x5 ++ (⟨#[95]⟩ : ByteArray), 1, x5 ++ (⟨#[95]⟩ : ByteArray), 0)) else (none))) else (if x5.size + 1 ≤ 9223372036854775807 then (some (x5 ++ (⟨#[95]⟩ : ByteArray), 1, x5 ++ (⟨#[95]⟩ : ByteArray), 0)) else (none))
def zaj.f (k : Nat) (a0_0 : Int) (a0_1 : ByteArray) (a0_2 : Int) : Option (ByteArray × Int × ByteArray × Int) := (some (([(⟨#[123]⟩ : ByteArray), (⟨#[125]⟩ : ByteArray), (⟨#[40]⟩ : ByteArray), (⟨#[41]⟩ : ByteArray), (⟨#[91]⟩ : ByteArray), (⟨#[93]⟩ : ByteArray), (⟨#[44]⟩ : ByteArray), (⟨#[124]⟩ : ByteArray), (⟨#[124, 61]⟩ : ByteArray), (⟨#[124, 126]⟩ : ByteArray), (⟨#[33, 61]⟩ : ByteArray), (⟨#[33, 126]⟩ : ByteArray), (⟨#[61]⟩ : ByteArray), (⟨#[61, 126]⟩ : ByteArray), (⟨#[61, 61]⟩ : ByteArray), (⟨#[62]⟩ : ByteArray), (⟨#[62, 61]⟩ : ByteArray), (⟨#[60]⟩ : ByteArray), (⟨#[60, 61]⟩ : ByteArray), (⟨#[43]⟩ : ByteArray), (⟨#[45]⟩ : ByteArray), (⟨#[42]⟩ : ByteArray), (⟨#[47]⟩ : ByteArray)] : List ByteArray) : List ByteArray)).bind fun y3 => ((zaK.f a0_0 4).bind fun t6 => (if t6 = 0 then (zaj.l0 k (⟨#[]⟩ : ByteArray) 0 a0_0 a0_1 a0_2) else (if t6 = 1 then (if 0 ≤ (mn (a0_1.size : Int) 60) then (if (mn (a0_1.size : Int) 60) ≤ (a0_1.size : Int) then ((zcj.f (a0_1.extract 0 ((mn (a0_1.size : Int) 60) : Int).toNat)).bind fun t10 => (some (t10, 2, a0_1.extract 0 ((mn (a0_1.size : Int) 60) : Int).toNat, 0))) else (none)) else (none)) else (if t6 = 2 then ((some (([(⟨#[48]⟩ : ByteArray), (⟨#[55]⟩ : ByteArray), (⟨#[49, 46, 50, 53]⟩ : ByteArray), (⟨#[53, 109]⟩ : ByteArray), (⟨#[49, 104, 51, 48, 109]⟩ : ByteArray), (⟨#[50, 53, 48, 109, 115]⟩ : ByteArray), (⟨#[53, 75, 66]⟩ : ByteArray), (⟨#[49, 46, 53, 77, 105, 66]⟩ : ByteArray)] : List ByteArray) : List ByteArray)).bind fun y11 => ((zaK.f a0_2 (y11.length : Int)).bind fun t14 => (if 0 ≤ t14 then (if t14 < (y11.length : Int) then ((some (([3, 3, 3, 4, 4, 4, 5, 5] : List Int) : List Int)).bind fun y16 => (if t14 < (y16.length : Int) then (some (zdd ByteArray.empty y11 t14, rd y16 t14, zdd ByteArray.empty y11 t14, 0)) else (none))) else (none)) else (none)))) else ((zaK.f a0_2 (y3.length : Int)).bind fun t21 => (if 0 ≤ t21 then (if t21 < (y3.length : Int) then (some (zdd ByteArray.empty y3 t21, 6, zdd ByteArray.empty y3 t21, 0)) else (none)) else (none)))))))
theorem zaj.zbp : ∀ k, (∀ y0 y1 y2 y3 y4, LeO (zaj.l0 k y0 y1 y2 y3 y4) (zaj.l0 (k + 1) y0 y1 y2 y3 y4))
 | 0 => fun _ _ _ _ _ r h => by simp [zaj.l0] at h
 | k + 1 => by
  have ih0 := zaj.zbp k
  ·intro y0 y1 y2 y3 y4
   unfold zaj.l0
   repeat' with_reducible first | exact ih0 _ _ _ _ _ | exact LeO.refl _ | exact LeO.none _ | refine LeO.ite ?_ ?_ | refine LeO.bind ?_ (fun _ => ?_)
theorem zaj.mono : ∀ a0 a1 a2 k, LeO (zaj.f k a0 a1 a2) (zaj.f (k + 1) a0 a1 a2) := by
 intro a0 a1 a2 k
 have ih0 := zaj.zbp k
 unfold zaj.f
 repeat' with_reducible first | exact ih0 _ _ _ _ _ | exact LeO.refl _ | exact LeO.none _ | refine LeO.ite ?_ ?_ | refine LeO.bind ?_ (fun _ => ?_)
def zaj.T16 : Bool × List (List Nat × List Nat) := (true, [([], []), ([], []), ([0, 1], [0, 1]), ([2], [2]), ([], []), ([], []), ([4, 5], [4, 5]), ([6], [6]), ([], []), ([], []), ([8, 9], [8, 9]), ([10], [10]), ([7, 11], [7, 11]), ([3, 0, 1, 2, 3], [3]), ([12, 13, 0, 1, 2, 3, 4, 5, 6, 7, 8, 9, 10, 11, 12, 13], [12])])
def zaj.B16 : List Nat := [0, 0, 3, 7, 0, 0, 48, 112, 0, 0, 768, 1792, 4080, 15, 16383]
theorem zaj.zq1 : zgD .any (opsOf Tryz.f18 16) = zaj.T16 := by kernel_rfl
theorem zaj.zqz : zeQ zaj.T16.2 zaj.B16 = true := by kernel_rfl
theorem zaj.calls (k : Nat) (a0_0 : Int) (a0_1 : ByteArray) (a0_2 : Int) (r1 : ByteArray) (r2 : Int) (r3 : ByteArray) (r4 : Int) (w : World) (hG : zaa (G w)) (h : zaj.f k a0_0 a0_1 a0_2 = some (r1, r2, r3, r4)) :
  Calls Tryz.prog 18 #[.agg #[.int .i64 a0_0, .string a0_1, .int .i64 a0_2]] w fun e w' => e = .returned (.tuple #[.string r1, .agg #[.int .i64 r2, .string r3, .int .i64 r4]]) ∧ Below w.heap.size w w' := by
 have hu51 := Tryz.underlying51
 have hu33 := Tryz.underlying33
 have HB := zaa.mk (Below.refl w.heap.size w)
 have H : ((some (([(⟨#[123]⟩ : ByteArray), (⟨#[125]⟩ : ByteArray), (⟨#[40]⟩ : ByteArray), (⟨#[41]⟩ : ByteArray), (⟨#[91]⟩ : ByteArray), (⟨#[93]⟩ : ByteArray), (⟨#[44]⟩ : ByteArray), (⟨#[124]⟩ : ByteArray), (⟨#[124, 61]⟩ : ByteArray), (⟨#[124, 126]⟩ : ByteArray), (⟨#[33, 61]⟩ : ByteArray), (⟨#[33, 126]⟩ : ByteArray), (⟨#[61]⟩ : ByteArray), (⟨#[61, 126]⟩ : ByteArray), (⟨#[61, 61]⟩ : ByteArray), (⟨#[62]⟩ : ByteArray), (⟨#[62, 61]⟩ : ByteArray), (⟨#[60]⟩ : ByteArray), (⟨#[60, 61]⟩ : ByteArray), (⟨#[43]⟩ : ByteArray), (⟨#[45]⟩ : ByteArray), (⟨#[42]⟩ : ByteArray), (⟨#[47]⟩ : ByteArray)] : List ByteArray) : List ByteArray)).bind fun y3 => ((zaK.f a0_0 4).bind fun t6 => (if t6 = 0 then (zaj.l0 k (⟨#[]⟩ : ByteArray) 0 a0_0 a0_1 a0_2) else (if t6 = 1 then (if 0 ≤ (mn (a0_1.size : Int) 60) then (if (mn (a0_1.size : Int) 60) ≤ (a0_1.size : Int) then ((zcj.f (a0_1.extract 0 ((mn (a0_1.size : Int) 60) : Int).toNat)).bind fun t10 => (some (t10, 2, a0_1.extract 0 ((mn (a0_1.size : Int) 60) : Int).toNat, 0))) else (none)) else (none)) else (if t6 = 2 then ((some (([(⟨#[48]⟩ : ByteArray), (⟨#[55]⟩ : ByteArray), (⟨#[49, 46, 50, 53]⟩ : ByteArray), (⟨#[53, 109]⟩ : ByteArray), (⟨#[49, 104, 51, 48, 109]⟩ : ByteArray), (⟨#[50, 53, 48, 109, 115]⟩ : ByteArray), (⟨#[53, 75, 66]⟩ : ByteArray), (⟨#[49, 46, 53, 77, 105, 66]⟩ : ByteArray)] : List ByteArray) : List ByteArray)).bind fun y11 => ((zaK.f a0_2 (y11.length : Int)).bind fun t14 => (if 0 ≤ t14 then (if t14 < (y11.length : Int) then ((some (([3, 3, 3, 4, 4, 4, 5, 5] : List Int) : List Int)).bind fun y16 => (if t14 < (y16.length : Int) then (some (zdd ByteArray.empty y11 t14, rd y16 t14, zdd ByteArray.empty y11 t14, 0)) else (none))) else (none)) else (none)))) else ((zaK.f a0_2 (y3.length : Int)).bind fun t21 => (if 0 ≤ t21 then (if t21 < (y3.length : Int) then (some (zdd ByteArray.empty y3 t21, 6, zdd ByteArray.empty y3 t21, 0)) else (none)) else (none)))))))) = some (r1, r2, r3, r4) := h
 clear h
 obtain ⟨y3, hy3⟩ : ∃ y_ : List ByteArray, y_ = (([(⟨#[123]⟩ : ByteArray), (⟨#[125]⟩ : ByteArray), (⟨#[40]⟩ : ByteArray), (⟨#[41]⟩ : ByteArray), (⟨#[91]⟩ : ByteArray), (⟨#[93]⟩ : ByteArray), (⟨#[44]⟩ : ByteArray), (⟨#[124]⟩ : ByteArray), (⟨#[124, 61]⟩ : ByteArray), (⟨#[124, 126]⟩ : ByteArray), (⟨#[33, 61]⟩ : ByteArray), (⟨#[33, 126]⟩ : ByteArray), (⟨#[61]⟩ : ByteArray), (⟨#[61, 126]⟩ : ByteArray), (⟨#[61, 61]⟩ : ByteArray), (⟨#[62]⟩ : ByteArray), (⟨#[62, 61]⟩ : ByteArray), (⟨#[60]⟩ : ByteArray), (⟨#[60, 61]⟩ : ByteArray), (⟨#[43]⟩ : ByteArray), (⟨#[45]⟩ : ByteArray), (⟨#[42]⟩ : ByteArray), (⟨#[47]⟩ : ByteArray)] : List ByteArray)) := ⟨_, rfl⟩
 replace H : ((zaK.f a0_0 4).bind fun t6 => (if t6 = 0 then (zaj.l0 k (⟨#[]⟩ : ByteArray) 0 a0_0 a0_1 a0_2) else (if t6 = 1 then (if 0 ≤ (mn (a0_1.size : Int) 60) then (if (mn (a0_1.size : Int) 60) ≤ (a0_1.size : Int) then ((zcj.f (a0_1.extract 0 ((mn (a0_1.size : Int) 60) : Int).toNat)).bind fun t10 => (some (t10, 2, a0_1.extract 0 ((mn (a0_1.size : Int) 60) : Int).toNat, 0))) else (none)) else (none)) else (if t6 = 2 then ((some (([(⟨#[48]⟩ : ByteArray), (⟨#[55]⟩ : ByteArray), (⟨#[49, 46, 50, 53]⟩ : ByteArray), (⟨#[53, 109]⟩ : ByteArray), (⟨#[49, 104, 51, 48, 109]⟩ : ByteArray), (⟨#[50, 53, 48, 109, 115]⟩ : ByteArray), (⟨#[53, 75, 66]⟩ : ByteArray), (⟨#[49, 46, 53, 77, 105, 66]⟩ : ByteArray)] : List ByteArray) : List ByteArray)).bind fun y11 => ((zaK.f a0_2 (y11.length : Int)).bind fun t14 => (if 0 ≤ t14 then (if t14 < (y11.length : Int) then ((some (([3, 3, 3, 4, 4, 4, 5, 5] : List Int) : List Int)).bind fun y16 => (if t14 < (y16.length : Int) then (some (zdd ByteArray.empty y11 t14, rd y16 t14, zdd ByteArray.empty y11 t14, 0)) else (none))) else (none)) else (none)))) else ((zaK.f a0_2 (y3.length : Int)).bind fun t21 => (if 0 ≤ t21 then (if t21 < (y3.length : Int) then (some (zdd ByteArray.empty y3 t21, 6, zdd ByteArray.empty y3 t21, 0)) else (none)) else (none))))))) = some (r1, r2, r3, r4) := by first | (rw [hy3]; with_reducible exact H) | (have H2_ := (Option.bind_some _ _).symm.trans H; rw [hy3]; with_reducible exact H2_) | (have H2_ := (Option.bind_some _ _).symm.trans H; with_reducible exact H2_) | with_reducible exact H | (rw [hy3]; exact H) | exact H
 have Ny3 := zaa.mk hy3
 clear hy3
 replace H := zBE H
 obtain ⟨t6, A20, H⟩ := H
 replace H : (if t6 = 0 then (zaj.l0 k (⟨#[]⟩ : ByteArray) 0 a0_0 a0_1 a0_2) else (if t6 = 1 then (if 0 ≤ (mn (a0_1.size : Int) 60) then (if (mn (a0_1.size : Int) 60) ≤ (a0_1.size : Int) then ((zcj.f (a0_1.extract 0 ((mn (a0_1.size : Int) 60) : Int).toNat)).bind fun t10 => (some (t10, 2, a0_1.extract 0 ((mn (a0_1.size : Int) 60) : Int).toNat, 0))) else (none)) else (none)) else (if t6 = 2 then ((some (([(⟨#[48]⟩ : ByteArray), (⟨#[55]⟩ : ByteArray), (⟨#[49, 46, 50, 53]⟩ : ByteArray), (⟨#[53, 109]⟩ : ByteArray), (⟨#[49, 104, 51, 48, 109]⟩ : ByteArray), (⟨#[50, 53, 48, 109, 115]⟩ : ByteArray), (⟨#[53, 75, 66]⟩ : ByteArray), (⟨#[49, 46, 53, 77, 105, 66]⟩ : ByteArray)] : List ByteArray) : List ByteArray)).bind fun y11 => ((zaK.f a0_2 (y11.length : Int)).bind fun t14 => (if 0 ≤ t14 then (if t14 < (y11.length : Int) then ((some (([3, 3, 3, 4, 4, 4, 5, 5] : List Int) : List Int)).bind fun y16 => (if t14 < (y16.length : Int) then (some (zdd ByteArray.empty y11 t14, rd y16 t14, zdd ByteArray.empty y11 t14, 0)) else (none))) else (none)) else (none)))) else ((zaK.f a0_2 (y3.length : Int)).bind fun t21 => (if 0 ≤ t21 then (if t21 < (y3.length : Int) then (some (zdd ByteArray.empty y3 t21, 6, zdd ByteArray.empty y3 t21, 0)) else (none)) else (none)))))) = some (r1, r2, r3, r4) := H
 have A2 := zaa.mk A20
 clear A20
 by_cases c3 : t6 = 0
 ·rw [if_pos c3] at H
  have c3b0 : (t6 == 0) = true := beq_iff_eq.mpr c3
  have c3b1 : (t6 != 0) = false := bne_eq_false_iff_eq.mpr c3
  clear c3
  have H' := zaa.mk H
  clear H
  go_enter Tryz.func18, Tryz.ntmps18
  go_wp2_with (first | ((with_reducible refine zaA (N := 1) rfl ?_); refine zaN ?hg (N := 1) ?hd (cs := #[.int .i64 a0_0, .string a0_1, .int .i64 a0_2]) (t := 51) ?hr ?_; (case hd => rfl); (case hg => rfl); (case hr => first | (go_simp; done) | (go_simp; rfl)); intro gb1 hg w4 hbox hb; have n0_ := zaa.mk (zab (lc HB.out) hb); have n1_ := zaa.mk (hbox); have n2_ := zaa.mk ((by rw [hg]; exact (zad (lc HB.out)) : w.heap.size ≤ gb1)); have n3_ := zaa.mk ((by rw [hg]; exact (zad (lc HB.out)) : w.heap.size ≤ gb1)); clear HB; have HB := n0_; have BK1 := n1_; have GW1 := n2_; have GE1 := n3_; clear n0_ n1_ n2_ n3_; clear hb hbox hg) | ((with_reducible refine zaA (N := 3) rfl ?_); refine zaN ?hg (N := 3) ?hd (cs := #[.int .i64 0, .string (⟨#[]⟩ : ByteArray), .int .i64 0]) (t := 33) ?hr ?_; (case hd => rfl); (case hg => rfl); (case hr => first | (go_simp; done) | (go_simp; rfl)); intro gb2 hg w5 hbox hb; have n0_ := zaa.mk (zak (g := gb1) (o := .cells #[.int .i64 a0_0, .string a0_1, .int .i64 a0_2] 51 (0, 0)) (bc BK1.out) hb); have n1_ := zaa.mk (zab lb hb); have n2_ := zaa.mk (hbox); have n3_ := zaa.mk ((by rw [hg]; exact (zad lb) : w.heap.size ≤ gb2)); have n4_ := zaa.mk ((by rw [hg]; exact (zad lb) : w.heap.size ≤ gb2)); have n5_ := zaa.mk ((by rw [hg]; exact Nat.ne_of_lt (zbg (g := gb1) (o := .cells #[.int .i64 a0_0, .string a0_1, .int .i64 a0_2] 51 (0, 0)) (bc BK1.out)) : gb1 ≠ gb2)); have n6_ := zaa.mk ((by rw [hg]; exact Nat.ne_of_gt (zbg (g := gb1) (o := .cells #[.int .i64 a0_0, .string a0_1, .int .i64 a0_2] 51 (0, 0)) (bc BK1.out)) : gb2 ≠ gb1)); clear BK1; clear HB; have BK1 := n0_; have HB := n1_; have BK2 := n2_; have GW2 := n3_; have GE2 := n4_; have NB1_2 := n5_; have NB2_1 := n6_; clear n0_ n1_ n2_ n3_ n4_ n5_ n6_; clear hb hbox hg) | ((with_reducible refine zaA (N := 11) rfl ?_); refine Kd.zf2 Kd.string _ 9 ?hg (N := 11) ?hd (xs := ([(⟨#[123]⟩ : ByteArray), (⟨#[125]⟩ : ByteArray), (⟨#[40]⟩ : ByteArray), (⟨#[41]⟩ : ByteArray), (⟨#[91]⟩ : ByteArray), (⟨#[93]⟩ : ByteArray), (⟨#[44]⟩ : ByteArray), (⟨#[124]⟩ : ByteArray), (⟨#[124, 61]⟩ : ByteArray), (⟨#[124, 126]⟩ : ByteArray), (⟨#[33, 61]⟩ : ByteArray), (⟨#[33, 126]⟩ : ByteArray), (⟨#[61]⟩ : ByteArray), (⟨#[61, 126]⟩ : ByteArray), (⟨#[61, 61]⟩ : ByteArray), (⟨#[62]⟩ : ByteArray), (⟨#[62, 61]⟩ : ByteArray), (⟨#[60]⟩ : ByteArray), (⟨#[60, 61]⟩ : ByteArray), (⟨#[43]⟩ : ByteArray), (⟨#[45]⟩ : ByteArray), (⟨#[42]⟩ : ByteArray), (⟨#[47]⟩ : ByteArray)] : List ByteArray)) (inner := [.string (⟨#[123]⟩ : ByteArray), .string (⟨#[125]⟩ : ByteArray), .string (⟨#[40]⟩ : ByteArray), .string (⟨#[41]⟩ : ByteArray), .string (⟨#[91]⟩ : ByteArray), .string (⟨#[93]⟩ : ByteArray), .string (⟨#[44]⟩ : ByteArray), .string (⟨#[124]⟩ : ByteArray), .string (⟨#[124, 61]⟩ : ByteArray), .string (⟨#[124, 126]⟩ : ByteArray), .string (⟨#[33, 61]⟩ : ByteArray), .string (⟨#[33, 126]⟩ : ByteArray), .string (⟨#[61]⟩ : ByteArray), .string (⟨#[61, 126]⟩ : ByteArray), .string (⟨#[61, 61]⟩ : ByteArray), .string (⟨#[62]⟩ : ByteArray), .string (⟨#[62, 61]⟩ : ByteArray), .string (⟨#[60]⟩ : ByteArray), .string (⟨#[60, 61]⟩ : ByteArray), .string (⟨#[43]⟩ : ByteArray), .string (⟨#[45]⟩ : ByteArray), .string (⟨#[42]⟩ : ByteArray), .string (⟨#[47]⟩ : ByteArray)]) (ok := fun _ => True) (okp := fun _ => True) ?hr ?hp (fun _ hk => hk) trivial (Below.refl _ _) (Nat.le_refl _) (by simp) ?_; (case hd => rfl); (case hg => rfl); (case hr => first | (go_simp; done) | (go_simp; rfl)); (case hp => repeat (first | exact zb5.none _ _ | refine zb5.one rfl ?_)); intro v4 w6 ho7 hb hg_ hnew_; clear hg_ hnew_; (first | rw [← Ny3.out] at ho7 | (simp only [Int.reduceToNat] at ho7; rw [← Ny3.out] at ho7)); have n0_ := zaa.mk (Kd.zaz ho7 (zad lb)); have n1_ := zaa.mk (zak (g := gb1) (o := .cells #[.int .i64 a0_0, .string a0_1, .int .i64 a0_2] 51 (0, 0)) (bc BK1.out) hb); have n2_ := zaa.mk (zak (g := gb2) (o := .cells #[.int .i64 0, .string (⟨#[]⟩ : ByteArray), .int .i64 0] 33 (0, 0)) (bc BK2.out) hb); have n3_ := zaa.mk (zab lb hb); clear BK1; clear BK2; clear HB; have HO5 := n0_; have BK1 := n1_; have BK2 := n2_; have HB := n3_; clear n0_ n1_ n2_ n3_; clear hb ho7; have hnb8 := NB1_2.out; have hnc8 := NB2_1.out; have hcz9_0 : w6.cell? ⟨gb1, 0, none⟩ = some (.int .i64 a0_0) := (zah BK1.out 0).trans rfl; have hcz9_1 : w6.cell? ⟨gb1, 1, none⟩ = some (.string a0_1) := (zah BK1.out 1).trans rfl; have hcz9_2 : w6.cell? ⟨gb1, 2, none⟩ = some (.int .i64 a0_2) := (zah BK1.out 2).trans rfl; have hfz9_0 := zae BK1.out 0; have hfz9_1 := zae BK1.out 1; have hfz9_2 := zae BK1.out 2) | (go_at_call 43; (with_reducible refine (zaK.calls a0_0 4 t6 _ A2.out).mono ?_); rintro e w' ⟨rfl, ⟨nd, rfl⟩⟩))
  go_loopg [5, 6] k (fun kq v5 v6 w' => ∃ (x5_1 : ByteArray) (x6_1 : Int), v5 = .string x5_1 ∧ v6 = .int .i64 x6_1 ∧ zaa (zaj.l0 kq x5_1 x6_1 a0_0 a0_1 a0_2 = some (r1, r2, r3, r4)) ∧ zaa (kq ≤ k) ∧ zaa (w'.heap[gb1]? = some (.cells #[.int .i64 a0_0, .string a0_1, .int .i64 a0_2] 51 (0, 0))) ∧ zaa (w'.heap[gb2]? = some (.cells #[.int .i64 0, .string (⟨#[]⟩ : ByteArray), .int .i64 0] 33 (0, 0))) ∧ zaa (Below w.heap.size w w'))
  case atStart => exact ⟨((⟨#[]⟩ : ByteArray)), (0), rs, rs, H', ⟨Nat.le_refl _⟩, ⟨by (with_reducible repeat (first | refine zap ?_ _ | refine zar ?_ | refine zai ?_ _)); exact BK1.out⟩, ⟨by (with_reducible repeat (first | refine zap ?_ _ | refine zar ?_ | refine zai ?_ _)); exact BK2.out⟩, ⟨lb⟩⟩
  case round =>
   clear H'
   try clear c1
   try clear p2
   try clear c3
   try clear c3b0
   try clear c3b1
   try clear c4
   try clear c8
   try clear hcz9_0
   try clear hcz9_1
   try clear hcz9_2
   try clear hfz9_0
   try clear hfz9_1
   try clear hfz9_2
   obtain ⟨x5_1, x6_1, rfl, rfl, HA, HK1, BK1, BK2, HB⟩ := hrel
   cases gk with
   | zero => exact absurd HA.out (by simp [zaj.l0])
   | succ k1 =>
    have H := HA.out
    clear HA
    simp only [zaj.l0] at H
    by_cases c10 : x6_1 < (a0_1.size : Int)
    ·rw [if_pos c10] at H
     have c10b0 : decide (x6_1 < (a0_1.size : Int)) = true := zDT c10
     clear c10
     by_cases c11 : x6_1 < 12
     ·rw [if_pos c11] at H
      have c11b0 : decide (x6_1 < 12) = true := zDT c11
      clear c11
      by_cases c12 : 0 ≤ x6_1
      ·rw [if_pos c12] at H
       have c12b0 : decide (0 ≤ x6_1) = true := zDT c12
       clear c12
       obtain ⟨y7, hy7⟩ : ∃ y_ : List Int, y_ = (([(97 + (Int.tmod (bt a0_1 x6_1) 26)) % 256] : List Int)) := ⟨_, rfl⟩
       replace H : (if x5_1.size + (strOfNums y7).size ≤ 9223372036854775807 then (zaj.l0 k1 (x5_1 ++ (strOfNums y7)) (wrap64 (x6_1 + 1)) a0_0 a0_1 a0_2) else (none)) = some (r1, r2, r3, r4) := by first | (rw [hy7]; with_reducible exact H) | (have H2_ := (Option.bind_some _ _).symm.trans H; rw [hy7]; with_reducible exact H2_) | (have H2_ := (Option.bind_some _ _).symm.trans H; with_reducible exact H2_) | with_reducible exact H | (rw [hy7]; exact H) | exact H
       have Ny7 := zaa.mk hy7
       clear hy7
       by_cases c14 : x5_1.size + (strOfNums y7).size ≤ 9223372036854775807
       ·rw [if_pos c14] at H
        have c14b0 := eq_true c14
        have c14b1 : decide (x5_1.size + (strOfNums y7).size ≤ 9223372036854775807) = true := zDT c14
        try have c14b2 : (9223372036854775807 < x5_1.size + (strOfNums y7).size) = False := eq_false (Nat.not_lt.2 c14)
        have H' := zaa.mk H
        clear H
        have hnb15 := NB1_2.out
        have hnc15 := NB2_1.out
        have hcz16_0 : wr.cell? ⟨gb1, 0, none⟩ = some (.int .i64 a0_0) := (zah BK1.out 0).trans rfl
        have hcz16_1 : wr.cell? ⟨gb1, 1, none⟩ = some (.string a0_1) := (zah BK1.out 1).trans rfl
        have hcz16_2 : wr.cell? ⟨gb1, 2, none⟩ = some (.int .i64 a0_2) := (zah BK1.out 2).trans rfl
        have hfz16_0 := zae BK1.out 0
        have hfz16_1 := zae BK1.out 1
        have hfz16_2 := zae BK1.out 2
        have p13 : 0 ≤ (x6_1 : Int) := zDO (by first | (with_reducible assumption) | assumption)
        have q13 : x6_1 < (a0_1.size : Int) := zDO (by first | (with_reducible assumption) | assumption)
        have hx13 := zdE a0_1 x6_1
        replace p13 := eq_true p13
        replace q13 := eq_true q13
        go_wp2_with (first | ((with_reducible refine zaA (N := 35) rfl ?_); refine Kd.zf2 (Kd.int .u8) _ 5 ?hg (N := 35) ?hd (xs := ([(97 + (Int.tmod (bt a0_1 x6_1) 26)) % 256] : List Int)) (inner := [.int .u8 ((97 + (Int.tmod (bt a0_1 x6_1) 26)) % 256)]) (ok := fun _ => True) (okp := fun _ => True) ?hr ?hp (fun _ hk => hk) trivial (Below.refl _ _) (Nat.le_refl _) (by simp) ?_; (case hd => rfl); (case hg => rfl); (case hr => first | (go_simp; done) | (go_simp; rfl)); (case hp => repeat (first | exact zb5.none _ _ | refine zb5.one rfl ?_)); intro v8 w17 ho18 hb hg_ hnew_; clear hg_ hnew_; (first | rw [← Ny7.out] at ho18 | (simp only [Int.reduceToNat] at ho18; rw [← Ny7.out] at ho18)); have n0_ := zaa.mk (Kd.zaz ho18 (zad lb)); have n1_ := zaa.mk (zak (g := gb1) (o := .cells #[.int .i64 a0_0, .string a0_1, .int .i64 a0_2] 51 (0, 0)) (bc BK1.out) hb); have n2_ := zaa.mk (zak (g := gb2) (o := .cells #[.int .i64 0, .string (⟨#[]⟩ : ByteArray), .int .i64 0] 33 (0, 0)) (bc BK2.out) hb); have n3_ := zaa.mk (zab lb hb); clear BK1; clear BK2; clear HB; have HO9 := n0_; have BK1 := n1_; have BK2 := n2_; have HB := n3_; clear n0_ n1_ n2_ n3_; clear hb ho18; have hcv19 := zhl (P := Tryz.prog) Tryz.underlying47 Tryz.underlying5 Tryz.underlying9 (Kd.zeY HO9.out)))
        go_roundg k1
        case measure => have := HK1.out; omega
        case rel => exact ⟨(x5_1 ++ (strOfNums y7)), (wrap64 (x6_1 + 1)), rs, rs, H', ⟨by have := HK1.out; omega⟩, ⟨by (with_reducible repeat (first | refine zap ?_ _ | refine zar ?_ | refine zai ?_ _)); exact BK1.out⟩, ⟨by (with_reducible repeat (first | refine zap ?_ _ | refine zar ?_ | refine zai ?_ _)); exact BK2.out⟩, ⟨lb⟩⟩
       ·rw [if_neg c14] at H
        exact absurd H (by simp)
      ·rw [if_neg c12] at H
       exact absurd H (by simp)
     ·rw [if_neg c11] at H
      have c11b0 : decide (x6_1 < 12) = false := zDF c11
      clear c11
      by_cases c20 : x5_1.size + 1 ≤ 9223372036854775807
      ·rw [if_pos c20] at H
       have c20b0 := eq_true c20
       have c20b1 : decide (x5_1.size + 1 ≤ 9223372036854775807) = true := zDT c20
       try have c20b2 : (9223372036854775807 < x5_1.size + 1) = False := eq_false (Nat.not_lt.2 c20)
       simp only [Option.some.injEq, Prod.mk.injEq] at H
       obtain ⟨rfl, rfl, rfl, rfl⟩ := H
       have hnb21 := NB1_2.out
       have hnc21 := NB2_1.out
       have hcz22_0 : wr.cell? ⟨gb1, 0, none⟩ = some (.int .i64 a0_0) := (zah BK1.out 0).trans rfl
       have hcz22_1 : wr.cell? ⟨gb1, 1, none⟩ = some (.string a0_1) := (zah BK1.out 1).trans rfl
       have hcz22_2 : wr.cell? ⟨gb1, 2, none⟩ = some (.int .i64 a0_2) := (zah BK1.out 2).trans rfl
       have hfz22_0 := zae BK1.out 0
       have hfz22_1 := zae BK1.out 1
       have hfz22_2 := zae BK1.out 2
       have hcz23_0 : wr.cell? ⟨gb2, 0, none⟩ = some (.int .i64 0) := (zah BK2.out 0).trans rfl
       have hcz23_1 : wr.cell? ⟨gb2, 1, none⟩ = some (.string (⟨#[]⟩ : ByteArray)) := (zah BK2.out 1).trans rfl
       have hcz23_2 : wr.cell? ⟨gb2, 2, none⟩ = some (.int .i64 0) := (zah BK2.out 2).trans rfl
       have hfz23_0 := zae BK2.out 0
       have hfz23_1 := zae BK2.out 1
       have hfz23_2 := zae BK2.out 2
       go_wp2
       refine bodyPost_ret (zdM rfl _ _ gb2 33 #[.int .i64 1, .string (x5_1 ++ (⟨#[95]⟩ : ByteArray)), .int .i64 0] (0, 0) _ rfl (by (with_reducible repeat (first | refine zap ?_ _ | refine zar ?_ | refine zai ?_ _)); refine zaB (cs := #[.int .i64 1, .string (x5_1 ++ (⟨#[95]⟩ : ByteArray)), .int .i64 0]) ?_ 2 _ rfl; (with_reducible repeat (first | refine zap ?_ _ | refine zar ?_ | refine zai ?_ _)); refine zaB (cs := #[.int .i64 1, .string (⟨#[]⟩ : ByteArray), .int .i64 0]) ?_ 1 _ rfl; (with_reducible repeat (first | refine zap ?_ _ | refine zar ?_ | refine zai ?_ _)); refine zaB (cs := #[.int .i64 0, .string (⟨#[]⟩ : ByteArray), .int .i64 0]) ?_ 0 _ rfl; (with_reducible repeat (first | refine zap ?_ _ | refine zar ?_ | refine zai ?_ _)); exact BK2.out) Tryz.underlying33 rfl (by kernel_rfl)) rfl ?_
       exact ⟨by first | rfl | (simp [zaf, zag] <;> rfl) | (simp [*, zaf, zag] <;> rfl), lb⟩
      ·rw [if_neg c20] at H
       exact absurd H (by simp)
    ·rw [if_neg c10] at H
     have c10b0 : decide (x6_1 < (a0_1.size : Int)) = false := zDF c10
     clear c10
     by_cases c24 : x5_1.size + 1 ≤ 9223372036854775807
     ·rw [if_pos c24] at H
      have c24b0 := eq_true c24
      have c24b1 : decide (x5_1.size + 1 ≤ 9223372036854775807) = true := zDT c24
      try have c24b2 : (9223372036854775807 < x5_1.size + 1) = False := eq_false (Nat.not_lt.2 c24)
      simp only [Option.some.injEq, Prod.mk.injEq] at H
      obtain ⟨rfl, rfl, rfl, rfl⟩ := H
      have hnb25 := NB1_2.out
      have hnc25 := NB2_1.out
      have hcz26_0 : wr.cell? ⟨gb1, 0, none⟩ = some (.int .i64 a0_0) := (zah BK1.out 0).trans rfl
      have hcz26_1 : wr.cell? ⟨gb1, 1, none⟩ = some (.string a0_1) := (zah BK1.out 1).trans rfl
      have hcz26_2 : wr.cell? ⟨gb1, 2, none⟩ = some (.int .i64 a0_2) := (zah BK1.out 2).trans rfl
      have hfz26_0 := zae BK1.out 0
      have hfz26_1 := zae BK1.out 1
      have hfz26_2 := zae BK1.out 2
      have hcz27_0 : wr.cell? ⟨gb2, 0, none⟩ = some (.int .i64 0) := (zah BK2.out 0).trans rfl
      have hcz27_1 : wr.cell? ⟨gb2, 1, none⟩ = some (.string (⟨#[]⟩ : ByteArray)) := (zah BK2.out 1).trans rfl
      have hcz27_2 : wr.cell? ⟨gb2, 2, none⟩ = some (.int .i64 0) := (zah BK2.out 2).trans rfl
      have hfz27_0 := zae BK2.out 0
      have hfz27_1 := zae BK2.out 1
      have hfz27_2 := zae BK2.out 2
      go_wp2
      refine bodyPost_ret (zdM rfl _ _ gb2 33 #[.int .i64 1, .string (x5_1 ++ (⟨#[95]⟩ : ByteArray)), .int .i64 0] (0, 0) _ rfl (by (with_reducible repeat (first | refine zap ?_ _ | refine zar ?_ | refine zai ?_ _)); refine zaB (cs := #[.int .i64 1, .string (x5_1 ++ (⟨#[95]⟩ : ByteArray)), .int .i64 0]) ?_ 2 _ rfl; (with_reducible repeat (first | refine zap ?_ _ | refine zar ?_ | refine zai ?_ _)); refine zaB (cs := #[.int .i64 1, .string (⟨#[]⟩ : ByteArray), .int .i64 0]) ?_ 1 _ rfl; (with_reducible repeat (first | refine zap ?_ _ | refine zar ?_ | refine zai ?_ _)); refine zaB (cs := #[.int .i64 0, .string (⟨#[]⟩ : ByteArray), .int .i64 0]) ?_ 0 _ rfl; (with_reducible repeat (first | refine zap ?_ _ | refine zar ?_ | refine zai ?_ _)); exact BK2.out) Tryz.underlying33 rfl (by kernel_rfl)) rfl ?_
      exact ⟨by first | rfl | (simp [zaf, zag] <;> rfl) | (simp [*, zaf, zag] <;> rfl), lb⟩
     ·rw [if_neg c24] at H
      exact absurd H (by simp)
 ·rw [if_neg c3] at H
  have c3b0 : (t6 == 0) = false := beq_eq_false_iff_ne.mpr c3
  have c3b1 : (t6 != 0) = true := bne_iff_ne.mpr c3
  by_cases c28 : t6 = 1
  ·rw [if_pos c28] at H
   have c28b0 : (t6 == 1) = true := beq_iff_eq.mpr c28
   have c28b1 : (t6 != 1) = false := bne_eq_false_iff_eq.mpr c28
   clear c28
   obtain ⟨ji29, hji29⟩ : ∃ j_ : Int, (mn (a0_1.size : Int) 60) = j_ := ⟨_, rfl⟩
   replace H : (if 0 ≤ (ji29) then (if (ji29) ≤ (a0_1.size : Int) then ((zcj.f (a0_1.extract 0 ((ji29) : Int).toNat)).bind fun t10 => (some (t10, 2, a0_1.extract 0 ((ji29) : Int).toNat, 0))) else (none)) else (none)) = some (r1, r2, r3, r4) := by first | (rw [hji29] at H; exact H) | (simp only [hji29] at H ⊢; exact H)
   (try rw [hji29] at A2)
   (try (have hji29h : ji29 ≤ 60 := by (rw [← hji29]; unfold mn; (repeat' split) <;> omega)))
   (try (have hji29g : ji29 ≤ 64 := by omega))
   (try (have hji29l : 0 ≤ ji29 := by (rw [← hji29]; unfold mn; (repeat' split) <;> omega)))
   (try (have hji29m : 0 ≤ ji29 := by omega))
   have hji29_ : (if 60 < (a0_1.size : Int) then 60 else (a0_1.size : Int)) = ji29 := hji29
   by_cases c30 : 0 ≤ (ji29)
   ·rw [if_pos c30] at H
    have c30b0 := eq_true c30
    have c30b1 : decide (0 ≤ (ji29)) = true := zDT c30
    clear c30
    by_cases c31 : (ji29) ≤ (a0_1.size : Int)
    ·rw [if_pos c31] at H
     have c31b0 := eq_true c31
     have c31b1 : decide ((ji29) ≤ (a0_1.size : Int)) = true := zDT c31
     clear c31
     replace H := zBE H
     obtain ⟨t10, A320, H⟩ := H
     replace H : (some (t10, 2, a0_1.extract 0 ((ji29) : Int).toNat, 0)) = some (r1, r2, r3, r4) := H
     have A32 := zaa.mk A320
     clear A320
     simp only [Option.some.injEq, Prod.mk.injEq] at H
     obtain ⟨rfl, rfl, rfl, rfl⟩ := H
     go_enter Tryz.func18, Tryz.ntmps18
     go_wp2_with (first | ((with_reducible refine zaA (N := 1) rfl ?_); refine zaN ?hg (N := 1) ?hd (cs := #[.int .i64 a0_0, .string a0_1, .int .i64 a0_2]) (t := 51) ?hr ?_; (case hd => rfl); (case hg => rfl); (case hr => first | (go_simp; done) | (go_simp; rfl)); intro gb1 hg w33 hbox hb; have n0_ := zaa.mk (zab (lc HB.out) hb); have n1_ := zaa.mk (hbox); have n2_ := zaa.mk ((by rw [hg]; exact (zad (lc HB.out)) : w.heap.size ≤ gb1)); have n3_ := zaa.mk ((by rw [hg]; exact (zad (lc HB.out)) : w.heap.size ≤ gb1)); clear HB; have HB := n0_; have BK1 := n1_; have GW1 := n2_; have GE1 := n3_; clear n0_ n1_ n2_ n3_; clear hb hbox hg) | ((with_reducible refine zaA (N := 3) rfl ?_); refine zaN ?hg (N := 3) ?hd (cs := #[.int .i64 0, .string (⟨#[]⟩ : ByteArray), .int .i64 0]) (t := 33) ?hr ?_; (case hd => rfl); (case hg => rfl); (case hr => first | (go_simp; done) | (go_simp; rfl)); intro gb2 hg w34 hbox hb; have n0_ := zaa.mk (zak (g := gb1) (o := .cells #[.int .i64 a0_0, .string a0_1, .int .i64 a0_2] 51 (0, 0)) (bc BK1.out) hb); have n1_ := zaa.mk (zab lb hb); have n2_ := zaa.mk (hbox); have n3_ := zaa.mk ((by rw [hg]; exact (zad lb) : w.heap.size ≤ gb2)); have n4_ := zaa.mk ((by rw [hg]; exact (zad lb) : w.heap.size ≤ gb2)); have n5_ := zaa.mk ((by rw [hg]; exact Nat.ne_of_lt (zbg (g := gb1) (o := .cells #[.int .i64 a0_0, .string a0_1, .int .i64 a0_2] 51 (0, 0)) (bc BK1.out)) : gb1 ≠ gb2)); have n6_ := zaa.mk ((by rw [hg]; exact Nat.ne_of_gt (zbg (g := gb1) (o := .cells #[.int .i64 a0_0, .string a0_1, .int .i64 a0_2] 51 (0, 0)) (bc BK1.out)) : gb2 ≠ gb1)); clear BK1; clear HB; have BK1 := n0_; have HB := n1_; have BK2 := n2_; have GW2 := n3_; have GE2 := n4_; have NB1_2 := n5_; have NB2_1 := n6_; clear n0_ n1_ n2_ n3_ n4_ n5_ n6_; clear hb hbox hg) | ((with_reducible refine zaA (N := 11) rfl ?_); refine Kd.zf2 Kd.string _ 9 ?hg (N := 11) ?hd (xs := ([(⟨#[123]⟩ : ByteArray), (⟨#[125]⟩ : ByteArray), (⟨#[40]⟩ : ByteArray), (⟨#[41]⟩ : ByteArray), (⟨#[91]⟩ : ByteArray), (⟨#[93]⟩ : ByteArray), (⟨#[44]⟩ : ByteArray), (⟨#[124]⟩ : ByteArray), (⟨#[124, 61]⟩ : ByteArray), (⟨#[124, 126]⟩ : ByteArray), (⟨#[33, 61]⟩ : ByteArray), (⟨#[33, 126]⟩ : ByteArray), (⟨#[61]⟩ : ByteArray), (⟨#[61, 126]⟩ : ByteArray), (⟨#[61, 61]⟩ : ByteArray), (⟨#[62]⟩ : ByteArray), (⟨#[62, 61]⟩ : ByteArray), (⟨#[60]⟩ : ByteArray), (⟨#[60, 61]⟩ : ByteArray), (⟨#[43]⟩ : ByteArray), (⟨#[45]⟩ : ByteArray), (⟨#[42]⟩ : ByteArray), (⟨#[47]⟩ : ByteArray)] : List ByteArray)) (inner := [.string (⟨#[123]⟩ : ByteArray), .string (⟨#[125]⟩ : ByteArray), .string (⟨#[40]⟩ : ByteArray), .string (⟨#[41]⟩ : ByteArray), .string (⟨#[91]⟩ : ByteArray), .string (⟨#[93]⟩ : ByteArray), .string (⟨#[44]⟩ : ByteArray), .string (⟨#[124]⟩ : ByteArray), .string (⟨#[124, 61]⟩ : ByteArray), .string (⟨#[124, 126]⟩ : ByteArray), .string (⟨#[33, 61]⟩ : ByteArray), .string (⟨#[33, 126]⟩ : ByteArray), .string (⟨#[61]⟩ : ByteArray), .string (⟨#[61, 126]⟩ : ByteArray), .string (⟨#[61, 61]⟩ : ByteArray), .string (⟨#[62]⟩ : ByteArray), .string (⟨#[62, 61]⟩ : ByteArray), .string (⟨#[60]⟩ : ByteArray), .string (⟨#[60, 61]⟩ : ByteArray), .string (⟨#[43]⟩ : ByteArray), .string (⟨#[45]⟩ : ByteArray), .string (⟨#[42]⟩ : ByteArray), .string (⟨#[47]⟩ : ByteArray)]) (ok := fun _ => True) (okp := fun _ => True) ?hr ?hp (fun _ hk => hk) trivial (Below.refl _ _) (Nat.le_refl _) (by simp) ?_; (case hd => rfl); (case hg => rfl); (case hr => first | (go_simp; done) | (go_simp; rfl)); (case hp => repeat (first | exact zb5.none _ _ | refine zb5.one rfl ?_)); intro v4 w35 ho36 hb hg_ hnew_; clear hg_ hnew_; (first | rw [← Ny3.out] at ho36 | (simp only [Int.reduceToNat] at ho36; rw [← Ny3.out] at ho36)); have n0_ := zaa.mk (Kd.zaz ho36 (zad lb)); have n1_ := zaa.mk (zak (g := gb1) (o := .cells #[.int .i64 a0_0, .string a0_1, .int .i64 a0_2] 51 (0, 0)) (bc BK1.out) hb); have n2_ := zaa.mk (zak (g := gb2) (o := .cells #[.int .i64 0, .string (⟨#[]⟩ : ByteArray), .int .i64 0] 33 (0, 0)) (bc BK2.out) hb); have n3_ := zaa.mk (zab lb hb); clear BK1; clear BK2; clear HB; have HO5 := n0_; have BK1 := n1_; have BK2 := n2_; have HB := n3_; clear n0_ n1_ n2_ n3_; clear hb ho36; have hnb37 := NB1_2.out; have hnc37 := NB2_1.out; have hcz38_0 : w35.cell? ⟨gb1, 0, none⟩ = some (.int .i64 a0_0) := (zah BK1.out 0).trans rfl; have hcz38_1 : w35.cell? ⟨gb1, 1, none⟩ = some (.string a0_1) := (zah BK1.out 1).trans rfl; have hcz38_2 : w35.cell? ⟨gb1, 2, none⟩ = some (.int .i64 a0_2) := (zah BK1.out 2).trans rfl; have hfz38_0 := zae BK1.out 0; have hfz38_1 := zae BK1.out 1; have hfz38_2 := zae BK1.out 2) | (go_at_call 43; (with_reducible refine (zaK.calls a0_0 4 t6 _ A2.out).mono ?_); rintro e w' ⟨rfl, ⟨nd, rfl⟩⟩; (try (rw [zcC w35]; generalize hq_ : World.drewN w35 _ = w35; have n0_ : zaa (Kd.R Kd.string 9 w35 w.heap.size (fun _ => True) v4 y3) := ⟨by rw [← hq_]; exact (rc HO5.out)⟩; have n1_ : zaa (w35.heap[gb1]? = some (.cells #[.int .i64 a0_0, .string a0_1, .int .i64 a0_2] 51 (0, 0))) := ⟨by rw [← hq_]; exact (bc BK1.out)⟩; have n2_ : zaa (w35.heap[gb2]? = some (.cells #[.int .i64 0, .string (⟨#[]⟩ : ByteArray), .int .i64 0] 33 (0, 0))) := ⟨by rw [← hq_]; exact (bc BK2.out)⟩; have n3_ : zaa (Below w.heap.size w w35) := ⟨by rw [← hq_]; exact lb⟩; clear HO5 BK1 BK2 HB hq_; have HO5 := n0_; have BK1 := n1_; have BK2 := n2_; have HB := n3_; clear n0_ n1_ n2_ n3_)); (try have hq0_ : w35.cell? ⟨gb1, 0, none⟩ = some (.int .i64 a0_0) := (zah BK1.out 0).trans rfl); (try have hq1_ : w35.cell? ⟨gb1, 1, none⟩ = some (.string a0_1) := (zah BK1.out 1).trans rfl); (try have hq2_ : w35.cell? ⟨gb1, 2, none⟩ = some (.int .i64 a0_2) := (zah BK1.out 2).trans rfl); (try have hf0_ := zae BK1.out 0); (try have hf1_ := zae BK1.out 1); (try have hf2_ := zae BK1.out 2)) | ((with_reducible refine zcL (f := 44) rfl ?_); refine zgC (some 53) rfl rfl Tryz.func44 (by kernel_rfl) rfl #[.string (a0_1.extract 0 ((ji29) : Int).toNat)] rfl (by (try simp only [List.map_toArray, List.map_cons, List.map_nil]); first | done | (simp only [hji29]; rfl) | rfl | (simp only [List.length_drop, List.length_take]; rfl)) ?_; (with_reducible refine (zcj.calls (a0_1.extract 0 ((ji29) : Int).toNat) t10 _ ?side1 A32.out).mono ?_); (case side1 => exact G.at hG.out lb); rintro e w39 ⟨rfl, hb⟩; refine ⟨_, rfl, ?_⟩; have n0_ := zaa.mk (Kd.zaS (rc HO5.out) hb); have n1_ := zaa.mk (zak (g := gb1) (o := .cells #[.int .i64 a0_0, .string a0_1, .int .i64 a0_2] 51 (0, 0)) (bc BK1.out) hb); have n2_ := zaa.mk (zak (g := gb2) (o := .cells #[.int .i64 0, .string (⟨#[]⟩ : ByteArray), .int .i64 0] 33 (0, 0)) (bc BK2.out) hb); have n3_ := zaa.mk (zab lb hb); clear HO5; clear BK1; clear BK2; clear HB; have HO5 := n0_; have BK1 := n1_; have BK2 := n2_; have HB := n3_; clear n0_ n1_ n2_ n3_; (try clear hb); (try clear hb2); (try clear hk); (try clear hi); have hcz40_0 : w39.cell? ⟨gb2, 0, none⟩ = some (.int .i64 0) := (zah BK2.out 0).trans rfl; have hcz40_1 : w39.cell? ⟨gb2, 1, none⟩ = some (.string (⟨#[]⟩ : ByteArray)) := (zah BK2.out 1).trans rfl; have hcz40_2 : w39.cell? ⟨gb2, 2, none⟩ = some (.int .i64 0) := (zah BK2.out 2).trans rfl; have hfz40_0 := zae BK2.out 0; have hfz40_1 := zae BK2.out 1; have hfz40_2 := zae BK2.out 2))
     refine bodyPost_ret (zdM rfl _ _ gb2 33 #[.int .i64 2, .string (a0_1.extract 0 ((ji29) : Int).toNat), .int .i64 0] (0, 0) _ rfl (by (with_reducible repeat (first | refine zap ?_ _ | refine zar ?_ | refine zai ?_ _)); refine zaB (cs := #[.int .i64 2, .string (a0_1.extract 0 ((ji29) : Int).toNat), .int .i64 0]) ?_ 2 _ rfl; (with_reducible repeat (first | refine zap ?_ _ | refine zar ?_ | refine zai ?_ _)); refine zaB (cs := #[.int .i64 2, .string (⟨#[]⟩ : ByteArray), .int .i64 0]) ?_ 1 _ rfl; (with_reducible repeat (first | refine zap ?_ _ | refine zar ?_ | refine zai ?_ _)); refine zaB (cs := #[.int .i64 0, .string (⟨#[]⟩ : ByteArray), .int .i64 0]) ?_ 0 _ rfl; (with_reducible repeat (first | refine zap ?_ _ | refine zar ?_ | refine zai ?_ _)); exact BK2.out) Tryz.underlying33 rfl (by kernel_rfl)) rfl ?_
     exact ⟨by first | rfl | (simp [zaf, zag] <;> rfl) | (simp only [← hji29]; first | rfl | (simp [zaf, zag] <;> rfl)) | (simp [*, zaf, zag] <;> rfl), lb⟩
    ·rw [if_neg c31] at H
     exact absurd H (by simp)
   ·rw [if_neg c30] at H
    exact absurd H (by simp)
  ·rw [if_neg c28] at H
   have c28b0 : (t6 == 1) = false := beq_eq_false_iff_ne.mpr c28
   have c28b1 : (t6 != 1) = true := bne_iff_ne.mpr c28
   by_cases c41 : t6 = 2
   ·rw [if_pos c41] at H
    have c41b0 : (t6 == 2) = true := beq_iff_eq.mpr c41
    have c41b1 : (t6 != 2) = false := bne_eq_false_iff_eq.mpr c41
    clear c41
    obtain ⟨y11, hy11⟩ : ∃ y_ : List ByteArray, y_ = (([(⟨#[48]⟩ : ByteArray), (⟨#[55]⟩ : ByteArray), (⟨#[49, 46, 50, 53]⟩ : ByteArray), (⟨#[53, 109]⟩ : ByteArray), (⟨#[49, 104, 51, 48, 109]⟩ : ByteArray), (⟨#[50, 53, 48, 109, 115]⟩ : ByteArray), (⟨#[53, 75, 66]⟩ : ByteArray), (⟨#[49, 46, 53, 77, 105, 66]⟩ : ByteArray)] : List ByteArray)) := ⟨_, rfl⟩
    replace H : ((zaK.f a0_2 (y11.length : Int)).bind fun t14 => (if 0 ≤ t14 then (if t14 < (y11.length : Int) then ((some (([3, 3, 3, 4, 4, 4, 5, 5] : List Int) : List Int)).bind fun y16 => (if t14 < (y16.length : Int) then (some (zdd ByteArray.empty y11 t14, rd y16 t14, zdd ByteArray.empty y11 t14, 0)) else (none))) else (none)) else (none))) = some (r1, r2, r3, r4) := by first | (rw [hy11]; with_reducible exact H) | (have H2_ := (Option.bind_some _ _).symm.trans H; rw [hy11]; with_reducible exact H2_) | (have H2_ := (Option.bind_some _ _).symm.trans H; with_reducible exact H2_) | with_reducible exact H | (rw [hy11]; exact H) | exact H
    have Ny11 := zaa.mk hy11
    clear hy11
    replace H := zBE H
    obtain ⟨t14, A420, H⟩ := H
    replace H : (if 0 ≤ t14 then (if t14 < (y11.length : Int) then ((some (([3, 3, 3, 4, 4, 4, 5, 5] : List Int) : List Int)).bind fun y16 => (if t14 < (y16.length : Int) then (some (zdd ByteArray.empty y11 t14, rd y16 t14, zdd ByteArray.empty y11 t14, 0)) else (none))) else (none)) else (none)) = some (r1, r2, r3, r4) := H
    have A42 := zaa.mk A420
    clear A420
    by_cases c43 : 0 ≤ t14
    ·rw [if_pos c43] at H
     have c43b0 : decide (0 ≤ t14) = true := zDT c43
     clear c43
     by_cases c44 : t14 < (y11.length : Int)
     ·rw [if_pos c44] at H
      have c44b0 : decide (t14 < (y11.length : Int)) = true := zDT c44
      clear c44
      obtain ⟨y16, hy16⟩ : ∃ y_ : List Int, y_ = (([3, 3, 3, 4, 4, 4, 5, 5] : List Int)) := ⟨_, rfl⟩
      replace H : (if t14 < (y16.length : Int) then (some (zdd ByteArray.empty y11 t14, rd y16 t14, zdd ByteArray.empty y11 t14, 0)) else (none)) = some (r1, r2, r3, r4) := by first | (rw [hy16]; with_reducible exact H) | (have H2_ := (Option.bind_some _ _).symm.trans H; rw [hy16]; with_reducible exact H2_) | (have H2_ := (Option.bind_some _ _).symm.trans H; with_reducible exact H2_) | with_reducible exact H | (rw [hy16]; exact H) | exact H
      have Ny16 := zaa.mk hy16
      clear hy16
      by_cases c45 : t14 < (y16.length : Int)
      ·rw [if_pos c45] at H
       have c45b0 : decide (t14 < (y16.length : Int)) = true := zDT c45
       clear c45
       simp only [Option.some.injEq, Prod.mk.injEq] at H
       obtain ⟨rfl, rfl, rfl, rfl⟩ := H
       go_enter Tryz.func18, Tryz.ntmps18
       try go_wp2_with (first | ((with_reducible refine zaA (N := 1) rfl ?_); refine zaN ?hg (N := 1) ?hd (cs := #[.int .i64 a0_0, .string a0_1, .int .i64 a0_2]) (t := 51) ?hr ?_; (case hd => rfl); (case hg => rfl); (case hr => first | (go_simp; done) | (go_simp; rfl)); intro gb1 hg w46 hbox hb; have n0_ := zaa.mk (zab (lc HB.out) hb); have n1_ := zaa.mk (hbox); have n2_ := zaa.mk ((by rw [hg]; exact (zad (lc HB.out)) : w.heap.size ≤ gb1)); have n3_ := zaa.mk ((by rw [hg]; exact (zad (lc HB.out)) : w.heap.size ≤ gb1)); clear HB; have HB := n0_; have BK1 := n1_; have GW1 := n2_; have GE1 := n3_; clear n0_ n1_ n2_ n3_; clear hb hbox hg) | ((with_reducible refine zaA (N := 3) rfl ?_); refine zaN ?hg (N := 3) ?hd (cs := #[.int .i64 0, .string (⟨#[]⟩ : ByteArray), .int .i64 0]) (t := 33) ?hr ?_; (case hd => rfl); (case hg => rfl); (case hr => first | (go_simp; done) | (go_simp; rfl)); intro gb2 hg w47 hbox hb; have n0_ := zaa.mk (zak (g := gb1) (o := .cells #[.int .i64 a0_0, .string a0_1, .int .i64 a0_2] 51 (0, 0)) (bc BK1.out) hb); have n1_ := zaa.mk (zab lb hb); have n2_ := zaa.mk (hbox); have n3_ := zaa.mk ((by rw [hg]; exact (zad lb) : w.heap.size ≤ gb2)); have n4_ := zaa.mk ((by rw [hg]; exact (zad lb) : w.heap.size ≤ gb2)); have n5_ := zaa.mk ((by rw [hg]; exact Nat.ne_of_lt (zbg (g := gb1) (o := .cells #[.int .i64 a0_0, .string a0_1, .int .i64 a0_2] 51 (0, 0)) (bc BK1.out)) : gb1 ≠ gb2)); have n6_ := zaa.mk ((by rw [hg]; exact Nat.ne_of_gt (zbg (g := gb1) (o := .cells #[.int .i64 a0_0, .string a0_1, .int .i64 a0_2] 51 (0, 0)) (bc BK1.out)) : gb2 ≠ gb1)); clear BK1; clear HB; have BK1 := n0_; have HB := n1_; have BK2 := n2_; have GW2 := n3_; have GE2 := n4_; have NB1_2 := n5_; have NB2_1 := n6_; clear n0_ n1_ n2_ n3_ n4_ n5_ n6_; clear hb hbox hg) | ((with_reducible refine zaA (N := 11) rfl ?_); refine Kd.zf2 Kd.string _ 9 ?hg (N := 11) ?hd (xs := ([(⟨#[123]⟩ : ByteArray), (⟨#[125]⟩ : ByteArray), (⟨#[40]⟩ : ByteArray), (⟨#[41]⟩ : ByteArray), (⟨#[91]⟩ : ByteArray), (⟨#[93]⟩ : ByteArray), (⟨#[44]⟩ : ByteArray), (⟨#[124]⟩ : ByteArray), (⟨#[124, 61]⟩ : ByteArray), (⟨#[124, 126]⟩ : ByteArray), (⟨#[33, 61]⟩ : ByteArray), (⟨#[33, 126]⟩ : ByteArray), (⟨#[61]⟩ : ByteArray), (⟨#[61, 126]⟩ : ByteArray), (⟨#[61, 61]⟩ : ByteArray), (⟨#[62]⟩ : ByteArray), (⟨#[62, 61]⟩ : ByteArray), (⟨#[60]⟩ : ByteArray), (⟨#[60, 61]⟩ : ByteArray), (⟨#[43]⟩ : ByteArray), (⟨#[45]⟩ : ByteArray), (⟨#[42]⟩ : ByteArray), (⟨#[47]⟩ : ByteArray)] : List ByteArray)) (inner := [.string (⟨#[123]⟩ : ByteArray), .string (⟨#[125]⟩ : ByteArray), .string (⟨#[40]⟩ : ByteArray), .string (⟨#[41]⟩ : ByteArray), .string (⟨#[91]⟩ : ByteArray), .string (⟨#[93]⟩ : ByteArray), .string (⟨#[44]⟩ : ByteArray), .string (⟨#[124]⟩ : ByteArray), .string (⟨#[124, 61]⟩ : ByteArray), .string (⟨#[124, 126]⟩ : ByteArray), .string (⟨#[33, 61]⟩ : ByteArray), .string (⟨#[33, 126]⟩ : ByteArray), .string (⟨#[61]⟩ : ByteArray), .string (⟨#[61, 126]⟩ : ByteArray), .string (⟨#[61, 61]⟩ : ByteArray), .string (⟨#[62]⟩ : ByteArray), .string (⟨#[62, 61]⟩ : ByteArray), .string (⟨#[60]⟩ : ByteArray), .string (⟨#[60, 61]⟩ : ByteArray), .string (⟨#[43]⟩ : ByteArray), .string (⟨#[45]⟩ : ByteArray), .string (⟨#[42]⟩ : ByteArray), .string (⟨#[47]⟩ : ByteArray)]) (ok := fun _ => True) (okp := fun _ => True) ?hr ?hp (fun _ hk => hk) trivial (Below.refl _ _) (Nat.le_refl _) (by simp) ?_; (case hd => rfl); (case hg => rfl); (case hr => first | (go_simp; done) | (go_simp; rfl)); (case hp => repeat (first | exact zb5.none _ _ | refine zb5.one rfl ?_)); intro v4 w48 ho49 hb hg_ hnew_; clear hg_ hnew_; (first | rw [← Ny3.out] at ho49 | (simp only [Int.reduceToNat] at ho49; rw [← Ny3.out] at ho49)); have n0_ := zaa.mk (Kd.zaz ho49 (zad lb)); have n1_ := zaa.mk (zak (g := gb1) (o := .cells #[.int .i64 a0_0, .string a0_1, .int .i64 a0_2] 51 (0, 0)) (bc BK1.out) hb); have n2_ := zaa.mk (zak (g := gb2) (o := .cells #[.int .i64 0, .string (⟨#[]⟩ : ByteArray), .int .i64 0] 33 (0, 0)) (bc BK2.out) hb); have n3_ := zaa.mk (zab lb hb); clear BK1; clear BK2; clear HB; have HO5 := n0_; have BK1 := n1_; have BK2 := n2_; have HB := n3_; clear n0_ n1_ n2_ n3_; clear hb ho49; have hnb50 := NB1_2.out; have hnc50 := NB2_1.out; have hcz51_0 : w48.cell? ⟨gb1, 0, none⟩ = some (.int .i64 a0_0) := (zah BK1.out 0).trans rfl; have hcz51_1 : w48.cell? ⟨gb1, 1, none⟩ = some (.string a0_1) := (zah BK1.out 1).trans rfl; have hcz51_2 : w48.cell? ⟨gb1, 2, none⟩ = some (.int .i64 a0_2) := (zah BK1.out 2).trans rfl; have hfz51_0 := zae BK1.out 0; have hfz51_1 := zae BK1.out 1; have hfz51_2 := zae BK1.out 2) | (go_at_call 43; (with_reducible refine (zaK.calls a0_0 4 t6 _ A2.out).mono ?_); rintro e w' ⟨rfl, ⟨nd, rfl⟩⟩; (try (rw [zcC w48]; generalize hq_ : World.drewN w48 _ = w48; have n0_ : zaa (Kd.R Kd.string 9 w48 w.heap.size (fun _ => True) v4 y3) := ⟨by rw [← hq_]; exact (rc HO5.out)⟩; have n1_ : zaa (w48.heap[gb1]? = some (.cells #[.int .i64 a0_0, .string a0_1, .int .i64 a0_2] 51 (0, 0))) := ⟨by rw [← hq_]; exact (bc BK1.out)⟩; have n2_ : zaa (w48.heap[gb2]? = some (.cells #[.int .i64 0, .string (⟨#[]⟩ : ByteArray), .int .i64 0] 33 (0, 0))) := ⟨by rw [← hq_]; exact (bc BK2.out)⟩; have n3_ : zaa (Below w.heap.size w w48) := ⟨by rw [← hq_]; exact lb⟩; clear HO5 BK1 BK2 HB hq_; have HO5 := n0_; have BK1 := n1_; have BK2 := n2_; have HB := n3_; clear n0_ n1_ n2_ n3_)); (try have hq0_ : w48.cell? ⟨gb1, 0, none⟩ = some (.int .i64 a0_0) := (zah BK1.out 0).trans rfl); (try have hq1_ : w48.cell? ⟨gb1, 1, none⟩ = some (.string a0_1) := (zah BK1.out 1).trans rfl); (try have hq2_ : w48.cell? ⟨gb1, 2, none⟩ = some (.int .i64 a0_2) := (zah BK1.out 2).trans rfl); (try have hf0_ := zae BK1.out 0); (try have hf1_ := zae BK1.out 1); (try have hf2_ := zae BK1.out 2)) | ((with_reducible refine zaA (N := 58) rfl ?_); refine Kd.zf2 Kd.string _ 9 ?hg (N := 58) ?hd (xs := ([(⟨#[48]⟩ : ByteArray), (⟨#[55]⟩ : ByteArray), (⟨#[49, 46, 50, 53]⟩ : ByteArray), (⟨#[53, 109]⟩ : ByteArray), (⟨#[49, 104, 51, 48, 109]⟩ : ByteArray), (⟨#[50, 53, 48, 109, 115]⟩ : ByteArray), (⟨#[53, 75, 66]⟩ : ByteArray), (⟨#[49, 46, 53, 77, 105, 66]⟩ : ByteArray)] : List ByteArray)) (inner := [.string (⟨#[48]⟩ : ByteArray), .string (⟨#[55]⟩ : ByteArray), .string (⟨#[49, 46, 50, 53]⟩ : ByteArray), .string (⟨#[53, 109]⟩ : ByteArray), .string (⟨#[49, 104, 51, 48, 109]⟩ : ByteArray), .string (⟨#[50, 53, 48, 109, 115]⟩ : ByteArray), .string (⟨#[53, 75, 66]⟩ : ByteArray), .string (⟨#[49, 46, 53, 77, 105, 66]⟩ : ByteArray)]) (ok := fun _ => True) (okp := fun _ => True) ?hr ?hp (fun _ hk => hk) trivial (Below.refl _ _) (Nat.le_refl _) (by simp) ?_; (case hd => rfl); (case hg => rfl); (case hr => first | (go_simp; done) | (go_simp; rfl)); (case hp => repeat (first | exact zb5.none _ _ | refine zb5.one rfl ?_)); intro v12 w52 ho53 hb hg_ hnew_; clear hg_ hnew_; (first | rw [← Ny11.out] at ho53 | (simp only [Int.reduceToNat] at ho53; rw [← Ny11.out] at ho53)); have n0_ := zaa.mk (Kd.zf9 (rc HO5.out) (Kd.zbk ho53) hb); have n1_ := zaa.mk (Kd.zaz (Kd.zbq ho53 (Kd.zcH (rc HO5.out))) (zad lb)); have n2_ := zaa.mk (zak (g := gb1) (o := .cells #[.int .i64 a0_0, .string a0_1, .int .i64 a0_2] 51 (0, 0)) (bc BK1.out) hb); have n3_ := zaa.mk (zak (g := gb2) (o := .cells #[.int .i64 0, .string (⟨#[]⟩ : ByteArray), .int .i64 0] 33 (0, 0)) (bc BK2.out) hb); have n4_ := zaa.mk (zab lb hb); clear HO5; clear BK1; clear BK2; clear HB; have HO5 := n0_; have HO13 := n1_; have BK1 := n2_; have BK2 := n3_; have HB := n4_; clear n0_ n1_ n2_ n3_ n4_; clear hb ho53; have hcz54_0 : w52.cell? ⟨gb1, 0, none⟩ = some (.int .i64 a0_0) := (zah BK1.out 0).trans rfl; have hcz54_1 : w52.cell? ⟨gb1, 1, none⟩ = some (.string a0_1) := (zah BK1.out 1).trans rfl; have hcz54_2 : w52.cell? ⟨gb1, 2, none⟩ = some (.int .i64 a0_2) := (zah BK1.out 2).trans rfl; have hfz54_0 := zae BK1.out 0; have hfz54_1 := zae BK1.out 1; have hfz54_2 := zae BK1.out 2; obtain ⟨Ao55, co55, eo55⟩ := Kd.zaC HO13.out; subst eo55) | (go_at_call 43; (with_reducible refine (zaK.calls a0_2 (y11.length : Int) t14 _ A42.out).mono ?_); rintro e w' ⟨rfl, ⟨nd, rfl⟩⟩; (try (rw [zcC w52]; generalize hq_ : World.drewN w52 _ = w52; have n0_ : zaa (Kd.R Kd.string 9 w52 w.heap.size (fun k_ => some k_ ≠ (v4 : Value).ownBlock) (.slice Ao55 y11.length co55) y11) := ⟨by rw [← hq_]; exact (by (with_reducible repeat (first | apply Kd.zaQ | apply Kd.zaR | apply Kd.zbb)); exact Kd.za7 HO13.out (fun _ hk => hk.2))⟩; have n1_ : zaa (Kd.R Kd.string 9 w52 w.heap.size (fun k_ => some k_ ≠ (.slice Ao55 y11.length co55 : Value).ownBlock) v4 y3) := ⟨by rw [← hq_]; exact (by (with_reducible repeat (first | apply Kd.zaQ | apply Kd.zaR | apply Kd.zbb)); exact Kd.za7 HO5.out (fun _ hk => hk.2))⟩; have n2_ : zaa (w52.heap[gb1]? = some (.cells #[.int .i64 a0_0, .string a0_1, .int .i64 a0_2] 51 (0, 0))) := ⟨by rw [← hq_]; exact (bc BK1.out)⟩; have n3_ : zaa (w52.heap[gb2]? = some (.cells #[.int .i64 0, .string (⟨#[]⟩ : ByteArray), .int .i64 0] 33 (0, 0))) := ⟨by rw [← hq_]; exact (bc BK2.out)⟩; have n4_ : zaa (Below w.heap.size w w52) := ⟨by rw [← hq_]; exact lb⟩; clear HO13 HO5 BK1 BK2 HB hq_; have HO13 := n0_; have HO5 := n1_; have BK1 := n2_; have BK2 := n3_; have HB := n4_; clear n0_ n1_ n2_ n3_ n4_))))
       have pi19 : (0 ≤ (t14 : Int)) = True := eq_true (zDO (by first | (with_reducible assumption) | assumption))
       have qi19 : (t14 < (y16.length : Int)) = True := eq_true (zDO (by first | (with_reducible assumption) | assumption))
       have n0_ := zaa.mk (Kd.zbb HO5.out)
       have n1_ := zaa.mk (Kd.zbb HO13.out)
       have n2_ := zaa.mk (zar BK1.out)
       have n3_ := zaa.mk (zar BK2.out)
       have n4_ := zaa.mk (zav HB.out)
       clear HO5
       clear HO13
       clear BK1
       clear BK2
       clear HB
       have HO5 := n0_
       have HO13 := n1_
       have BK1 := n2_
       have BK2 := n3_
       have HB := n4_
       clear n0_ n1_ n2_ n3_ n4_
       have p15 : 0 ≤ (t14 : Int) := zDO (by first | (with_reducible assumption) | assumption)
       have q15 : t14 < (y11.length : Int) := zDO (by first | (with_reducible assumption) | assumption)
       obtain ⟨ad15, e15, hx15_0⟩ := Kd.zeZ (Kd.zax HO13.out).2.2 t14 p15 q15
       cases e15
       replace p15 := eq_true p15
       replace q15 := eq_true q15
       have p20 : 0 ≤ (t14 : Int) := zDO (by first | (with_reducible assumption) | assumption)
       have q20 : t14 < (y11.length : Int) := zDO (by first | (with_reducible assumption) | assumption)
       obtain ⟨ad20, e20, hx20_0⟩ := Kd.zeZ (Kd.zax HO13.out).2.2 t14 p20 q20
       obtain rfl : ad15 = ad20 := (by injection e20)
       replace p20 := eq_true p20
       replace q20 := eq_true q20
       refine zl1 (n := 15) (S := fun w' => w'.cell? (ad15.add (t14).toNat) = some (.string (zdd ByteArray.empty y11 t14)) ∧ w'.cell? (ad15.add (t14).toNat) = some (.string (zdd ByteArray.empty y11 t14))) (ds := []) #[false, false, false, false, false, false, false, false, false, false, false, false, false, false, false] (by kernel_rfl) rfl rfl ⟨hx15_0, hx20_0⟩ (fun hHeld => ?_); refine zgF zaj.zq1 zaj.zqz (fun HT_ HW_ => ?_)
       generalize w52.drew = w56 at HO5 HO13 BK1 BK2 HB hx15_0 hx20_0 hHeld ⊢
       refine zcK (i := 0) (N := some 64) (v := ?_) (a' := ?_) #[true, false, false, false, false, false, false, false, false, false, false, false, false, false, false] rfl rfl (zb8 HT_.out (by kernel_rfl)) (fun _ _ _ h => h) (Or.inl ⟨by rfl, ?_⟩) ?_ ?_
       rotate_left
       ·intro w'
        go_simp
        with_reducible rfl
       rotate_left
       ·simp only [Act.put, List.setIfInBounds_toArray, List.set_cons_zero, List.set_cons_succ, zbs, zbR]
        rfl
       refine zcK (i := 1) (N := some 65) (v := ?_) (a' := ?_) #[true, true, false, false, false, false, false, false, false, false, false, false, false, false, false] rfl rfl (zb8 HT_.out (by kernel_rfl)) (fun _ _ _ h => h) (Or.inl ⟨by rfl, ?_⟩) ?_ ?_
       rotate_left
       ·intro w'
        go_simp
        with_reducible rfl
       rotate_left
       ·simp only [Act.put, List.setIfInBounds_toArray, List.set_cons_zero, List.set_cons_succ, zbs, zbR]
        rfl
       refine zcK (i := 2) (N := some 66) (v := ?_) (a' := ?_) #[true, true, true, false, false, false, false, false, false, false, false, false, false, false, false] rfl rfl (zb8 HT_.out (by kernel_rfl)) (fun _ _ _ h => h) (Or.inl ⟨by rfl, ?_⟩) ?_ ?_
       rotate_left
       ·intro w'
        go_simp
        with_reducible rfl
       rotate_left
       ·simp only [Act.put, List.setIfInBounds_toArray, List.set_cons_zero, List.set_cons_succ, zbs, zbR]
        rfl
       refine zcK (i := 5) (N := some 69) (v := ?_) (a' := ?_) #[true, true, true, false, false, true, false, false, false, false, false, false, false, false, false] rfl rfl (zb8 HT_.out (by kernel_rfl)) (fun _ _ _ h => h) (Or.inl ⟨by rfl, ?_⟩) ?_ ?_
       rotate_left
       ·intro w'
        go_simp
        with_reducible rfl
       rotate_left
       ·simp only [Act.put, List.setIfInBounds_toArray, List.set_cons_zero, List.set_cons_succ, zbs, zbR]
        rfl
       refine zcK (i := 8) (N := some 72) (v := ?_) (a' := ?_) #[true, true, true, false, false, true, false, false, true, false, false, false, false, false, false] rfl rfl (zb8 HT_.out (by kernel_rfl)) (fun _ _ _ h => h) (Or.inl ⟨by rfl, ?_⟩) ?_ ?_
       rotate_left
       ·intro w'
        go_simp
        with_reducible rfl
       rotate_left
       ·simp only [Act.put, List.setIfInBounds_toArray, List.set_cons_zero, List.set_cons_succ, zbs, zbR]
        rfl
       refine zcK (i := 9) (N := some 73) (v := ?_) (a' := ?_) #[true, true, true, false, false, true, false, false, true, true, false, false, false, false, false] rfl rfl (zb8 HT_.out (by kernel_rfl)) (fun _ _ _ h => h) (Or.inl ⟨by rfl, ?_⟩) ?_ ?_
       rotate_left
       ·intro w'
        go_simp
        with_reducible rfl
       rotate_left
       ·simp only [Act.put, List.setIfInBounds_toArray, List.set_cons_zero, List.set_cons_succ, zbs, zbR]
        rfl
       refine zcK (i := 10) (N := some 74) (v := ?_) (a' := ?_) #[true, true, true, false, false, true, false, false, true, true, true, false, false, false, false] rfl rfl (zb8 HT_.out (by kernel_rfl)) (fun _ _ _ h => h) (Or.inl ⟨by rfl, ?_⟩) ?_ ?_
       rotate_left
       ·intro w'
        go_simp
        with_reducible rfl
       rotate_left
       ·simp only [Act.put, List.setIfInBounds_toArray, List.set_cons_zero, List.set_cons_succ, zbs, zbR]
        rfl
       refine zit (i := 3) (N := some 67) (v := ?_) (a' := ?_) #[true, true, true, true, false, true, false, false, true, true, true, false, false, false, false] rfl rfl (zeA HT_.out HW_.out (by kernel_rfl)) (fun _ _ _ h => h) (Or.inl ⟨by rfl, ?_⟩) hHeld ?_ ?_
       rotate_left
       ·rintro w' ⟨s0, s1⟩
        go_simp
        with_reducible rfl
       rotate_left
       ·simp only [Act.put, List.setIfInBounds_toArray, List.set_cons_zero, List.set_cons_succ, zbs, zbR]
        rfl
       refine zcK (i := 13) (N := some 2) (v := ?_) (a' := ?_) #[true, true, true, true, false, true, false, false, true, true, true, false, false, true, false] rfl rfl (zb8 HT_.out (by kernel_rfl)) (fun _ _ _ h => h) (Or.inl ⟨by rfl, ?_⟩) ?_ ?_
       rotate_left
       ·intro w'
        go_simp
        with_reducible rfl
       rotate_left
       ·simp only [Act.put, List.setIfInBounds_toArray, List.set_cons_zero, List.set_cons_succ, zbs, zbR]
        rfl
       refine zit (i := 11) (N := some 75) (v := ?_) (a' := ?_) #[true, true, true, true, false, true, false, false, true, true, true, true, false, true, false] rfl rfl (zeA HT_.out HW_.out (by kernel_rfl)) (fun _ _ _ h => h) (Or.inl ⟨by rfl, ?_⟩) hHeld ?_ ?_
       rotate_left
       ·rintro w' ⟨s0, s1⟩
        go_simp
        with_reducible rfl
       rotate_left
       ·simp only [Act.put, List.setIfInBounds_toArray, List.set_cons_zero, List.set_cons_succ, zbs, zbR]
        rfl
       refine znt (i := 4) (N := some 68) #[true, true, true, true, true, true, false, false, true, true, true, true, false, true, false] rfl rfl (zfc HT_.out (by kernel_rfl)) (by decide) (fun K hK => ?_)
       refine Kd.zkZ (Kd.int .i64) _ 3 ?hg (N := 68) ?hd (xs := ([3, 3, 3, 4, 4, 4, 5, 5] : List Int)) (inner := [.int .i64 3, .int .i64 3, .int .i64 3, .int .i64 4, .int .i64 4, .int .i64 4, .int .i64 5, .int .i64 5]) (ok := fun _ => True) (okp := fun _ => True) ?hr ?hp (fun _ hk => hk) trivial (Below.refl _ _) (Nat.le_refl _) (by simp) ?_; (case hd => rfl); (case hg => rfl); (case hr => first | (go_simp; done) | (go_simp; rfl)); (case hp => repeat (first | exact zb5.none _ _ | refine zb5.one rfl ?_))
       intro v17 w57 ho58 hb hg_ hnew_
       have HS0_ := (hb.cell (World.block_lt_of_cell? _ _ (hHeld.1))).trans (hHeld.1)
       have HS1_ := (hb.cell (World.block_lt_of_cell? _ _ (hHeld.2))).trans (hHeld.2)
       clear hg_ hnew_
       (first | rw [← Ny16.out] at ho58 | (simp only [Int.reduceToNat] at ho58; rw [← Ny16.out] at ho58))
       have n0_ := zaa.mk (Kd.zaS (rc HO5.out) hb)
       have n1_ := zaa.mk (Kd.zaS (rc HO13.out) hb)
       have n2_ := zaa.mk (Kd.zaz ho58 (zad lb))
       have n3_ := zaa.mk (zak (g := gb1) (o := .cells #[.int .i64 a0_0, .string a0_1, .int .i64 a0_2] 51 (0, 0)) (bc BK1.out) hb)
       have n4_ := zaa.mk (zak (g := gb2) (o := .cells #[.int .i64 0, .string (⟨#[]⟩ : ByteArray), .int .i64 0] 33 (0, 0)) (bc BK2.out) hb)
       have n5_ := zaa.mk (zab lb hb)
       clear HO5
       clear HO13
       clear BK1
       clear BK2
       clear HB
       have HO5 := n0_
       have HO13 := n1_
       have HO18 := n2_
       have BK1 := n3_
       have BK2 := n4_
       have HB := n5_
       clear n0_ n1_ n2_ n3_ n4_ n5_
       clear hb ho58
       obtain ⟨Ao59, co59, eo59⟩ := Kd.zaC HO18.out
       subst eo59
       obtain ⟨ado59, fo59, _⟩ := Kd.zbT (Kd.zax HO18.out).2.2 0 (by decide) (by rw [Ny16.out]; simp)
       cases fo59
       refine hK.out _ _ ⟨HS0_, HS1_⟩ (fun hHeld => ?_)
       clear hK K
       refine ziC (a' := ?_) ?_ ?_
       rotate_left
       ·show Act.put _ (some 68) _ = _
        simp only [Act.put, List.setIfInBounds_toArray, List.set_cons_zero, List.set_cons_succ, zbs, zbR]
        rfl
       refine zcK (i := 6) (N := some 70) (v := ?_) (a' := ?_) #[true, true, true, true, true, true, true, false, true, true, true, true, false, true, false] rfl rfl (zb8 HT_.out (by kernel_rfl)) (fun _ _ _ h => h) (Or.inl ⟨by rfl, ?_⟩) ?_ ?_
       rotate_left
       ·intro w'
        go_simp
        with_reducible rfl
       rotate_left
       ·simp only [Act.put, List.setIfInBounds_toArray, List.set_cons_zero, List.set_cons_succ, zbs, zbR]
        rfl
       refine znt (i := 7) (N := some 71) #[true, true, true, true, true, true, true, true, true, true, true, true, false, true, false] rfl rfl (zfc HT_.out (by kernel_rfl)) (by decide) (fun K hK => ?_)
       (have p19 : 0 ≤ (t14 : Int) := zDO (by first | (with_reducible assumption) | assumption); have q19 : t14 < (y16.length : Int) := zDO (by first | (with_reducible assumption) | assumption); obtain ⟨ad19, e19, hx19_0⟩ := Kd.zbT (Kd.zax HO18.out).2.2 t14 p19 q19; obtain rfl : ado59 = ad19 := (by injection e19))
       refine zou (w1 := ?_) (v := ?_) (by rfl) rfl ?_ ?_
       rotate_left 2
       ·go_simp
        constructor
        ·rfl
        ·rfl
       clear hx19_0
       refine hK.out _ _ ⟨hHeld.1, hHeld.2⟩ (fun hHeld => ?_)
       clear hK K
       refine ziC (a' := ?_) ?_ ?_
       rotate_left
       ·show Act.put _ (some 71) _ = _
        simp only [Act.put, List.setIfInBounds_toArray, List.set_cons_zero, List.set_cons_succ, zbs, zbR]
        rfl
       refine zcK (i := 12) (N := some 76) (v := ?_) (a' := ?_) #[true, true, true, true, true, true, true, true, true, true, true, true, true, true, false] rfl rfl (zb8 HT_.out (by kernel_rfl)) (fun _ _ _ h => h) (Or.inl ⟨by rfl, ?_⟩) ?_ ?_
       rotate_left
       ·intro w'
        go_simp
        with_reducible rfl
       rotate_left
       ·simp only [Act.put, List.setIfInBounds_toArray, List.set_cons_zero, List.set_cons_succ, zbs, zbR]
        rfl
       refine znt (i := 14) (N := none) #[true, true, true, true, true, true, true, true, true, true, true, true, true, true, true] rfl rfl (zfc HT_.out (by kernel_rfl)) (by decide) (fun K hK => ?_)
       have hs60 : w57.cell? ⟨gb2, 0, none⟩ = some (.int .i64 0) := (zah BK2.out 0).trans rfl
       have hfs60 := zae BK2.out 0
       have hns60_0 := NB1_2.out
       have hms60_0 := NB2_1.out
       have hs61 : w57.cell? ⟨gb2, 1, none⟩ = some (.string (⟨#[]⟩ : ByteArray)) := (zah BK2.out 1).trans rfl
       have hfs61 := zae BK2.out 1
       have hns61_0 := NB1_2.out
       have hms61_0 := NB2_1.out
       have hs62 : w57.cell? ⟨gb2, 2, none⟩ = some (.int .i64 0) := (zah BK2.out 2).trans rfl
       have hfs62 := zae BK2.out 2
       have hns62_0 := NB1_2.out
       have hms62_0 := NB2_1.out
       refine zqO (w1 := ?_) (by rfl) rfl ?_ ?_
       rotate_left
       ·go_simp
        rfl
       refine hK.out _ _ ⟨((cell_far (p := ⟨gb2, _, none⟩) (by first | exact Kd.zb1 (Kd.zf8 HO13.out BK2.out (by decide)) | (rw [zcf]; exact Kd.zb1 (Kd.zf8 HO13.out BK2.out (by decide))) | (show (Addr.add _ _).block ≠ _; rw [zcf]; exact Kd.zb1 (Kd.zf8 HO13.out BK2.out (by decide))) | (dsimp only; exact Kd.zb1 (Kd.zf8 HO13.out BK2.out (by decide)))) _).trans (((cell_far (p := ⟨gb2, _, none⟩) (by first | exact Kd.zb1 (Kd.zf8 HO13.out BK2.out (by decide)) | (rw [zcf]; exact Kd.zb1 (Kd.zf8 HO13.out BK2.out (by decide))) | (show (Addr.add _ _).block ≠ _; rw [zcf]; exact Kd.zb1 (Kd.zf8 HO13.out BK2.out (by decide))) | (dsimp only; exact Kd.zb1 (Kd.zf8 HO13.out BK2.out (by decide)))) _).trans (((cell_far (p := ⟨gb2, _, none⟩) (by first | exact Kd.zb1 (Kd.zf8 HO13.out BK2.out (by decide)) | (rw [zcf]; exact Kd.zb1 (Kd.zf8 HO13.out BK2.out (by decide))) | (show (Addr.add _ _).block ≠ _; rw [zcf]; exact Kd.zb1 (Kd.zf8 HO13.out BK2.out (by decide))) | (dsimp only; exact Kd.zb1 (Kd.zf8 HO13.out BK2.out (by decide)))) _).trans (hHeld.1)))))), ((cell_far (p := ⟨gb2, _, none⟩) (by first | exact Kd.zb1 (Kd.zf8 HO13.out BK2.out (by decide)) | (rw [zcf]; exact Kd.zb1 (Kd.zf8 HO13.out BK2.out (by decide))) | (show (Addr.add _ _).block ≠ _; rw [zcf]; exact Kd.zb1 (Kd.zf8 HO13.out BK2.out (by decide))) | (dsimp only; exact Kd.zb1 (Kd.zf8 HO13.out BK2.out (by decide)))) _).trans (((cell_far (p := ⟨gb2, _, none⟩) (by first | exact Kd.zb1 (Kd.zf8 HO13.out BK2.out (by decide)) | (rw [zcf]; exact Kd.zb1 (Kd.zf8 HO13.out BK2.out (by decide))) | (show (Addr.add _ _).block ≠ _; rw [zcf]; exact Kd.zb1 (Kd.zf8 HO13.out BK2.out (by decide))) | (dsimp only; exact Kd.zb1 (Kd.zf8 HO13.out BK2.out (by decide)))) _).trans (((cell_far (p := ⟨gb2, _, none⟩) (by first | exact Kd.zb1 (Kd.zf8 HO13.out BK2.out (by decide)) | (rw [zcf]; exact Kd.zb1 (Kd.zf8 HO13.out BK2.out (by decide))) | (show (Addr.add _ _).block ≠ _; rw [zcf]; exact Kd.zb1 (Kd.zf8 HO13.out BK2.out (by decide))) | (dsimp only; exact Kd.zb1 (Kd.zf8 HO13.out BK2.out (by decide)))) _).trans (hHeld.2))))))⟩ (fun hHeld => ?_)
       clear hK K
       refine zo4 (zjE HT_.out (by kernel_rfl)) ?_
       try go_wp2
       refine bodyPost_ret (zdM rfl _ _ gb2 33 #[.int .i64 (rd y16 t14), .string (zdd ByteArray.empty y11 t14), .int .i64 0] (0, 0) _ rfl (by (with_reducible repeat (first | refine zap ?_ _ | refine zar ?_ | refine zai ?_ _)); refine zaB (cs := #[.int .i64 (rd y16 t14), .string (zdd ByteArray.empty y11 t14), .int .i64 0]) ?_ 2 _ rfl; (with_reducible repeat (first | refine zap ?_ _ | refine zar ?_ | refine zai ?_ _)); refine zaB (cs := #[.int .i64 (rd y16 t14), .string (⟨#[]⟩ : ByteArray), .int .i64 0]) ?_ 1 _ rfl; (with_reducible repeat (first | refine zap ?_ _ | refine zar ?_ | refine zai ?_ _)); refine zaB (cs := #[.int .i64 0, .string (⟨#[]⟩ : ByteArray), .int .i64 0]) ?_ 0 _ rfl; (with_reducible repeat (first | refine zap ?_ _ | refine zar ?_ | refine zai ?_ _)); exact BK2.out) Tryz.underlying33 rfl (by kernel_rfl)) rfl ?_
       exact ⟨by first | rfl | (simp [zaf, zag] <;> rfl) | (simp [*, zaf, zag] <;> rfl), lb⟩
      ·rw [if_neg c45] at H
       exact absurd H (by simp)
     ·rw [if_neg c44] at H
      exact absurd H (by simp)
    ·rw [if_neg c43] at H
     exact absurd H (by simp)
   ·rw [if_neg c41] at H
    have c41b0 : (t6 == 2) = false := beq_eq_false_iff_ne.mpr c41
    have c41b1 : (t6 != 2) = true := bne_iff_ne.mpr c41
    replace H := zBE H
    obtain ⟨t21, A630, H⟩ := H
    replace H : (if 0 ≤ t21 then (if t21 < (y3.length : Int) then (some (zdd ByteArray.empty y3 t21, 6, zdd ByteArray.empty y3 t21, 0)) else (none)) else (none)) = some (r1, r2, r3, r4) := H
    have A63 := zaa.mk A630
    clear A630
    by_cases c64 : 0 ≤ t21
    ·rw [if_pos c64] at H
     have c64b0 : decide (0 ≤ t21) = true := zDT c64
     clear c64
     by_cases c65 : t21 < (y3.length : Int)
     ·rw [if_pos c65] at H
      have c65b0 : decide (t21 < (y3.length : Int)) = true := zDT c65
      clear c65
      simp only [Option.some.injEq, Prod.mk.injEq] at H
      obtain ⟨rfl, rfl, rfl, rfl⟩ := H
      go_enter Tryz.func18, Tryz.ntmps18
      go_wp2_with (first | ((with_reducible refine zaA (N := 1) rfl ?_); refine zaN ?hg (N := 1) ?hd (cs := #[.int .i64 a0_0, .string a0_1, .int .i64 a0_2]) (t := 51) ?hr ?_; (case hd => rfl); (case hg => rfl); (case hr => first | (go_simp; done) | (go_simp; rfl)); intro gb1 hg w66 hbox hb; have n0_ := zaa.mk (zab (lc HB.out) hb); have n1_ := zaa.mk (hbox); have n2_ := zaa.mk ((by rw [hg]; exact (zad (lc HB.out)) : w.heap.size ≤ gb1)); have n3_ := zaa.mk ((by rw [hg]; exact (zad (lc HB.out)) : w.heap.size ≤ gb1)); clear HB; have HB := n0_; have BK1 := n1_; have GW1 := n2_; have GE1 := n3_; clear n0_ n1_ n2_ n3_; clear hb hbox hg) | ((with_reducible refine zaA (N := 3) rfl ?_); refine zaN ?hg (N := 3) ?hd (cs := #[.int .i64 0, .string (⟨#[]⟩ : ByteArray), .int .i64 0]) (t := 33) ?hr ?_; (case hd => rfl); (case hg => rfl); (case hr => first | (go_simp; done) | (go_simp; rfl)); intro gb2 hg w67 hbox hb; have n0_ := zaa.mk (zak (g := gb1) (o := .cells #[.int .i64 a0_0, .string a0_1, .int .i64 a0_2] 51 (0, 0)) (bc BK1.out) hb); have n1_ := zaa.mk (zab lb hb); have n2_ := zaa.mk (hbox); have n3_ := zaa.mk ((by rw [hg]; exact (zad lb) : w.heap.size ≤ gb2)); have n4_ := zaa.mk ((by rw [hg]; exact (zad lb) : w.heap.size ≤ gb2)); have n5_ := zaa.mk ((by rw [hg]; exact Nat.ne_of_lt (zbg (g := gb1) (o := .cells #[.int .i64 a0_0, .string a0_1, .int .i64 a0_2] 51 (0, 0)) (bc BK1.out)) : gb1 ≠ gb2)); have n6_ := zaa.mk ((by rw [hg]; exact Nat.ne_of_gt (zbg (g := gb1) (o := .cells #[.int .i64 a0_0, .string a0_1, .int .i64 a0_2] 51 (0, 0)) (bc BK1.out)) : gb2 ≠ gb1)); clear BK1; clear HB; have BK1 := n0_; have HB := n1_; have BK2 := n2_; have GW2 := n3_; have GE2 := n4_; have NB1_2 := n5_; have NB2_1 := n6_; clear n0_ n1_ n2_ n3_ n4_ n5_ n6_; clear hb hbox hg) | ((with_reducible refine zaA (N := 11) rfl ?_); refine Kd.zf2 Kd.string _ 9 ?hg (N := 11) ?hd (xs := ([(⟨#[123]⟩ : ByteArray), (⟨#[125]⟩ : ByteArray), (⟨#[40]⟩ : ByteArray), (⟨#[41]⟩ : ByteArray), (⟨#[91]⟩ : ByteArray), (⟨#[93]⟩ : ByteArray), (⟨#[44]⟩ : ByteArray), (⟨#[124]⟩ : ByteArray), (⟨#[124, 61]⟩ : ByteArray), (⟨#[124, 126]⟩ : ByteArray), (⟨#[33, 61]⟩ : ByteArray), (⟨#[33, 126]⟩ : ByteArray), (⟨#[61]⟩ : ByteArray), (⟨#[61, 126]⟩ : ByteArray), (⟨#[61, 61]⟩ : ByteArray), (⟨#[62]⟩ : ByteArray), (⟨#[62, 61]⟩ : ByteArray), (⟨#[60]⟩ : ByteArray), (⟨#[60, 61]⟩ : ByteArray), (⟨#[43]⟩ : ByteArray), (⟨#[45]⟩ : ByteArray), (⟨#[42]⟩ : ByteArray), (⟨#[47]⟩ : ByteArray)] : List ByteArray)) (inner := [.string (⟨#[123]⟩ : ByteArray), .string (⟨#[125]⟩ : ByteArray), .string (⟨#[40]⟩ : ByteArray), .string (⟨#[41]⟩ : ByteArray), .string (⟨#[91]⟩ : ByteArray), .string (⟨#[93]⟩ : ByteArray), .string (⟨#[44]⟩ : ByteArray), .string (⟨#[124]⟩ : ByteArray), .string (⟨#[124, 61]⟩ : ByteArray), .string (⟨#[124, 126]⟩ : ByteArray), .string (⟨#[33, 61]⟩ : ByteArray), .string (⟨#[33, 126]⟩ : ByteArray), .string (⟨#[61]⟩ : ByteArray), .string (⟨#[61, 126]⟩ : ByteArray), .string (⟨#[61, 61]⟩ : ByteArray), .string (⟨#[62]⟩ : ByteArray), .string (⟨#[62, 61]⟩ : ByteArray), .string (⟨#[60]⟩ : ByteArray), .string (⟨#[60, 61]⟩ : ByteArray), .string (⟨#[43]⟩ : ByteArray), .string (⟨#[45]⟩ : ByteArray), .string (⟨#[42]⟩ : ByteArray), .string (⟨#[47]⟩ : ByteArray)]) (ok := fun _ => True) (okp := fun _ => True) ?hr ?hp (fun _ hk => hk) trivial (Below.refl _ _) (Nat.le_refl _) (by simp) ?_; (case hd => rfl); (case hg => rfl); (case hr => first | (go_simp; done) | (go_simp; rfl)); (case hp => repeat (first | exact zb5.none _ _ | refine zb5.one rfl ?_)); intro v4 w68 ho69 hb hg_ hnew_; clear hg_ hnew_; (first | rw [← Ny3.out] at ho69 | (simp only [Int.reduceToNat] at ho69; rw [← Ny3.out] at ho69)); have n0_ := zaa.mk (Kd.zaz ho69 (zad lb)); have n1_ := zaa.mk (zak (g := gb1) (o := .cells #[.int .i64 a0_0, .string a0_1, .int .i64 a0_2] 51 (0, 0)) (bc BK1.out) hb); have n2_ := zaa.mk (zak (g := gb2) (o := .cells #[.int .i64 0, .string (⟨#[]⟩ : ByteArray), .int .i64 0] 33 (0, 0)) (bc BK2.out) hb); have n3_ := zaa.mk (zab lb hb); clear BK1; clear BK2; clear HB; have HO5 := n0_; have BK1 := n1_; have BK2 := n2_; have HB := n3_; clear n0_ n1_ n2_ n3_; clear hb ho69; have hnb70 := NB1_2.out; have hnc70 := NB2_1.out; have hcz71_0 : w68.cell? ⟨gb1, 0, none⟩ = some (.int .i64 a0_0) := (zah BK1.out 0).trans rfl; have hcz71_1 : w68.cell? ⟨gb1, 1, none⟩ = some (.string a0_1) := (zah BK1.out 1).trans rfl; have hcz71_2 : w68.cell? ⟨gb1, 2, none⟩ = some (.int .i64 a0_2) := (zah BK1.out 2).trans rfl; have hfz71_0 := zae BK1.out 0; have hfz71_1 := zae BK1.out 1; have hfz71_2 := zae BK1.out 2) | (go_at_call 43; (with_reducible refine (zaK.calls a0_0 4 t6 _ A2.out).mono ?_); rintro e w' ⟨rfl, ⟨nd, rfl⟩⟩; (try (rw [zcC w68]; generalize hq_ : World.drewN w68 _ = w68; have n0_ : zaa (Kd.R Kd.string 9 w68 w.heap.size (fun _ => True) v4 y3) := ⟨by rw [← hq_]; exact (rc HO5.out)⟩; have n1_ : zaa (w68.heap[gb1]? = some (.cells #[.int .i64 a0_0, .string a0_1, .int .i64 a0_2] 51 (0, 0))) := ⟨by rw [← hq_]; exact (bc BK1.out)⟩; have n2_ : zaa (w68.heap[gb2]? = some (.cells #[.int .i64 0, .string (⟨#[]⟩ : ByteArray), .int .i64 0] 33 (0, 0))) := ⟨by rw [← hq_]; exact (bc BK2.out)⟩; have n3_ : zaa (Below w.heap.size w w68) := ⟨by rw [← hq_]; exact lb⟩; clear HO5 BK1 BK2 HB hq_; have HO5 := n0_; have BK1 := n1_; have BK2 := n2_; have HB := n3_; clear n0_ n1_ n2_ n3_)); obtain ⟨Ao72, co72, eo72⟩ := Kd.zaC HO5.out; subst eo72; (try have hq0_ : w68.cell? ⟨gb1, 0, none⟩ = some (.int .i64 a0_0) := (zah BK1.out 0).trans rfl); (try have hq1_ : w68.cell? ⟨gb1, 1, none⟩ = some (.string a0_1) := (zah BK1.out 1).trans rfl); (try have hq2_ : w68.cell? ⟨gb1, 2, none⟩ = some (.int .i64 a0_2) := (zah BK1.out 2).trans rfl); (try have hf0_ := zae BK1.out 0); (try have hf1_ := zae BK1.out 1); (try have hf2_ := zae BK1.out 2)) | (go_at_call 43; (with_reducible refine (zaK.calls a0_2 (y3.length : Int) t21 _ A63.out).mono ?_); rintro e w' ⟨rfl, ⟨nd, rfl⟩⟩; (try (rw [zcC w68]; generalize hq_ : World.drewN w68 _ = w68; have n0_ : zaa (Kd.R Kd.string 9 w68 w.heap.size (fun _ => True) (.slice Ao72 y3.length co72) y3) := ⟨by rw [← hq_]; exact (rc HO5.out)⟩; have n1_ : zaa (w68.heap[gb1]? = some (.cells #[.int .i64 a0_0, .string a0_1, .int .i64 a0_2] 51 (0, 0))) := ⟨by rw [← hq_]; exact (bc BK1.out)⟩; have n2_ : zaa (w68.heap[gb2]? = some (.cells #[.int .i64 0, .string (⟨#[]⟩ : ByteArray), .int .i64 0] 33 (0, 0))) := ⟨by rw [← hq_]; exact (bc BK2.out)⟩; have n3_ : zaa (Below w.heap.size w w68) := ⟨by rw [← hq_]; exact lb⟩; clear HO5 BK1 BK2 HB hq_; have HO5 := n0_; have BK1 := n1_; have BK2 := n2_; have HB := n3_; clear n0_ n1_ n2_ n3_)); have p22 : 0 ≤ (t21 : Int) := zDO (by first | (with_reducible assumption) | assumption); have q22 : t21 < (y3.length : Int) := zDO (by first | (with_reducible assumption) | assumption); obtain ⟨ad22, e22, hx22_0⟩ := Kd.zeZ (Kd.zax HO5.out).2.2 t21 p22 q22; cases e22; replace p22 := eq_true p22; replace q22 := eq_true q22; have hcz73_0 : w68.cell? ⟨gb2, 0, none⟩ = some (.int .i64 0) := (zah BK2.out 0).trans rfl; have hcz73_1 : w68.cell? ⟨gb2, 1, none⟩ = some (.string (⟨#[]⟩ : ByteArray)) := (zah BK2.out 1).trans rfl; have hcz73_2 : w68.cell? ⟨gb2, 2, none⟩ = some (.int .i64 0) := (zah BK2.out 2).trans rfl; have hfz73_0 := zae BK2.out 0; have hfz73_1 := zae BK2.out 1; have hfz73_2 := zae BK2.out 2))
      refine bodyPost_ret (zdM rfl _ _ gb2 33 #[.int .i64 6, .string (zdd ByteArray.empty y3 t21), .int .i64 0] (0, 0) _ rfl (by (with_reducible repeat (first | refine zap ?_ _ | refine zar ?_ | refine zai ?_ _)); refine zaB (cs := #[.int .i64 6, .string (zdd ByteArray.empty y3 t21), .int .i64 0]) ?_ 2 _ rfl; (with_reducible repeat (first | refine zap ?_ _ | refine zar ?_ | refine zai ?_ _)); refine zaB (cs := #[.int .i64 6, .string (⟨#[]⟩ : ByteArray), .int .i64 0]) ?_ 1 _ rfl; (with_reducible repeat (first | refine zap ?_ _ | refine zar ?_ | refine zai ?_ _)); refine zaB (cs := #[.int .i64 0, .string (⟨#[]⟩ : ByteArray), .int .i64 0]) ?_ 0 _ rfl; (with_reducible repeat (first | refine zap ?_ _ | refine zar ?_ | refine zai ?_ _)); exact BK2.out) Tryz.underlying33 rfl (by kernel_rfl)) rfl ?_
      exact ⟨by first | rfl | (simp [zaf, zag] <;> rfl) | (simp [*, zaf, zag] <;> rfl), lb⟩
     ·rw [if_neg c65] at H
      exact absurd H (by simp)
    ·rw [if_neg c64] at H
     exact absurd H (by simp)
def zat.l0 : Nat → List (S33) → List (S33) → Int → Option (Bool)
 | 0, _, _, _ => none
 | k + 1, x0, x1, x5 => if x5 < (x0.length : Int) then (if 0 ≤ x5 then (if x5 < (x1.length : Int) then (if ((zbV x0 x5).f0) = ((zbV x1 x5).f0) then (if ((zbV x0 x5).f1).toList = ((zbV x1 x5).f1).toList then (zat.l0 k x0 x1 (wrap64 (x5 + 1))) else (some false)) else (some false)) else (none)) else (none)) else (some true)
def zat.f (k : Nat) (l0 : List (S33)) (l1 : List (S33)) : Option (Bool) := if (l0.length : Int) = (l1.length : Int) then (zat.l0 k l0 l1 0) else (some false)
theorem zat.zbp : ∀ k, (∀ y0 y1 y2, LeO (zat.l0 k y0 y1 y2) (zat.l0 (k + 1) y0 y1 y2))
 | 0 => fun _ _ _ r h => by simp [zat.l0] at h
 | k + 1 => by
  have ih0 := zat.zbp k
  ·intro y0 y1 y2
   unfold zat.l0
   repeat' with_reducible first | exact ih0 _ _ _ | exact LeO.refl _ | exact LeO.none _ | refine LeO.ite ?_ ?_ | refine LeO.bind ?_ (fun _ => ?_)
theorem zat.mono : ∀ a0 a1 k, LeO (zat.f k a0 a1) (zat.f (k + 1) a0 a1) := by
 intro a0 a1 k
 have ih0 := zat.zbp k
 unfold zat.f
 repeat' with_reducible first | exact ih0 _ _ _ | exact LeO.refl _ | exact LeO.none _ | refine LeO.ite ?_ ?_ | refine LeO.bind ?_ (fun _ => ?_)
theorem zat.calls (k : Nat) (A0 : Option Addr) (c0 : Nat) (l0 : List (S33)) (A1 : Option Addr) (c1 : Nat) (l1 : List (S33)) (r : Bool) (w : World) (hr0 : Kd.C k33 w A0 l0.length l0) (hc0 : l0.length ≤ c0) (hr1 : Kd.C k33 w A1 l1.length l1) (hc1 : l1.length ≤ c1) (h : zat.f k l0 l1 = some r) :
  Calls Tryz.prog 10 #[.slice A0 l0.length c0, .slice A1 l1.length c1] w fun e w' => e = .returned (.bool r) ∧ zaO w w' := by
 have HR0 := zaa.mk hr0
 have HC0 := zaa.mk hc0
 clear hr0 hc0
 have HR1 := zaa.mk hr1
 have HC1 := zaa.mk hc1
 clear hr1 hc1
 have H : (if (l0.length : Int) = (l1.length : Int) then (zat.l0 k l0 l1 0) else (some false)) = some r := h
 clear h
 by_cases c3 : (l0.length : Int) = (l1.length : Int)
 ·rw [if_pos c3] at H
  have c3b0 : ((l0.length : Int) == (l1.length : Int)) = true := beq_iff_eq.mpr c3
  have c3b1 : ((l0.length : Int) != (l1.length : Int)) = false := bne_eq_false_iff_eq.mpr c3
  have c3b2 : (l0.length == l1.length) = true := by first | simpa using c3 | (simp at c3 ⊢; omega)
  clear c3
  have H' := zaa.mk H
  clear H
  go_enter Tryz.func10, Tryz.ntmps10
  go_wp2
  repeat (go_quiet (fail); try go_wp2)
  go_loopg [5] k (fun kq v5 w' => ∃ (x5_1 : Int), v5 = .int .i64 x5_1 ∧ zaa (zat.l0 kq l0 l1 x5_1 = some r) ∧ zaa (kq ≤ k) ∧ zaO w w')
  case atStart => exact ⟨(0), rs, H', ⟨Nat.le_refl _⟩, by repeat (first | exact zaO.refl _ | apply zaO.step)⟩
  case round =>
   clear H'
   try clear c1
   try clear p2
   try clear c3
   try clear c3b0
   try clear c3b1
   try clear c3b2
   obtain ⟨x5_1, rfl, HA, HK1, ⟨m1, rfl⟩⟩ := hrel
   cases gk with
   | zero => exact absurd HA.out (by simp [zat.l0])
   | succ k1 =>
    have H := HA.out
    clear HA
    simp only [zat.l0] at H
    by_cases c4 : x5_1 < (l0.length : Int)
    ·rw [if_pos c4] at H
     have c4b0 : decide (x5_1 < (l0.length : Int)) = true := zDT c4
     clear c4
     by_cases c5 : 0 ≤ x5_1
     ·rw [if_pos c5] at H
      have c5b0 : decide (0 ≤ x5_1) = true := zDT c5
      clear c5
      by_cases c6 : x5_1 < (l1.length : Int)
      ·rw [if_pos c6] at H
       have c6b0 : decide (x5_1 < (l1.length : Int)) = true := zDT c6
       clear c6
       by_cases c7 : ((zbV l0 x5_1).f0) = ((zbV l1 x5_1).f0)
       ·rw [if_pos c7] at H
        have c7b0 : (((zbV l0 x5_1).f0) == ((zbV l1 x5_1).f0)) = true := beq_iff_eq.mpr c7
        have c7b1 : (((zbV l0 x5_1).f0) != ((zbV l1 x5_1).f0)) = false := bne_eq_false_iff_eq.mpr c7
        clear c7
        by_cases c8 : ((zbV l0 x5_1).f1).toList = ((zbV l1 x5_1).f1).toList
        ·rw [if_pos c8] at H
         have c8b0 : (((zbV l0 x5_1).f1).toList == ((zbV l1 x5_1).f1).toList) = true := beq_iff_eq.mpr c8
         have c8b1 : (((zbV l0 x5_1).f1).toList != ((zbV l1 x5_1).f1).toList) = false := bne_eq_false_iff_eq.mpr c8
         clear c8
         have H' := zaa.mk H
         clear H
         have p1 : 0 ≤ (x5_1 : Int) := zDO (by first | (with_reducible assumption) | assumption)
         have q1 : x5_1 < (l0.length : Int) := zDO (by first | (with_reducible assumption) | assumption)
         obtain ⟨ad1, e1, hx1_0, hx1_1, hx1_2⟩ := zea HR0.out x5_1 p1 q1
         cases e1
         replace p1 := eq_true p1
         replace q1 := eq_true q1
         have p2 : 0 ≤ (x5_1 : Int) := zDO (by first | (with_reducible assumption) | assumption)
         have q2 : x5_1 < (l1.length : Int) := zDO (by first | (with_reducible assumption) | assumption)
         obtain ⟨ad2, e2, hx2_0, hx2_1, hx2_2⟩ := zea HR1.out x5_1 p2 q2
         cases e2
         replace p2 := eq_true p2
         replace q2 := eq_true q2
         have p3 : 0 ≤ (x5_1 : Int) := zDO (by first | (with_reducible assumption) | assumption)
         have q3 : x5_1 < (l0.length : Int) := zDO (by first | (with_reducible assumption) | assumption)
         obtain ⟨ad3, e3, hx3_0, hx3_1, hx3_2⟩ := zea HR0.out x5_1 p3 q3
         obtain rfl : ad1 = ad3 := (by injection e3)
         replace p3 := eq_true p3
         replace q3 := eq_true q3
         have p4 : 0 ≤ (x5_1 : Int) := zDO (by first | (with_reducible assumption) | assumption)
         have q4 : x5_1 < (l1.length : Int) := zDO (by first | (with_reducible assumption) | assumption)
         obtain ⟨ad4, e4, hx4_0, hx4_1, hx4_2⟩ := zea HR1.out x5_1 p4 q4
         obtain rfl : ad2 = ad4 := (by injection e4)
         replace p4 := eq_true p4
         replace q4 := eq_true q4
         go_wp2
         repeat (go_quiet (fail); try go_wp2)
         go_roundg k1
         case measure => have := HK1.out; omega
         case rel => exact ⟨(wrap64 (x5_1 + 1)), rs, H', ⟨by have := HK1.out; omega⟩, by repeat (first | exact zaO.refl _ | apply zaO.step)⟩
        ·rw [if_neg c8] at H
         have c8b0 : (((zbV l0 x5_1).f1).toList == ((zbV l1 x5_1).f1).toList) = false := beq_eq_false_iff_ne.mpr c8
         have c8b1 : (((zbV l0 x5_1).f1).toList != ((zbV l1 x5_1).f1).toList) = true := bne_iff_ne.mpr c8
         obtain rfl := Option.some.inj H
         have p1 : 0 ≤ (x5_1 : Int) := zDO (by first | (with_reducible assumption) | assumption)
         have q1 : x5_1 < (l0.length : Int) := zDO (by first | (with_reducible assumption) | assumption)
         obtain ⟨ad1, e1, hx1_0, hx1_1, hx1_2⟩ := zea HR0.out x5_1 p1 q1
         cases e1
         replace p1 := eq_true p1
         replace q1 := eq_true q1
         have p2 : 0 ≤ (x5_1 : Int) := zDO (by first | (with_reducible assumption) | assumption)
         have q2 : x5_1 < (l1.length : Int) := zDO (by first | (with_reducible assumption) | assumption)
         obtain ⟨ad2, e2, hx2_0, hx2_1, hx2_2⟩ := zea HR1.out x5_1 p2 q2
         cases e2
         replace p2 := eq_true p2
         replace q2 := eq_true q2
         have p3 : 0 ≤ (x5_1 : Int) := zDO (by first | (with_reducible assumption) | assumption)
         have q3 : x5_1 < (l0.length : Int) := zDO (by first | (with_reducible assumption) | assumption)
         obtain ⟨ad3, e3, hx3_0, hx3_1, hx3_2⟩ := zea HR0.out x5_1 p3 q3
         obtain rfl : ad1 = ad3 := (by injection e3)
         replace p3 := eq_true p3
         replace q3 := eq_true q3
         have p4 : 0 ≤ (x5_1 : Int) := zDO (by first | (with_reducible assumption) | assumption)
         have q4 : x5_1 < (l1.length : Int) := zDO (by first | (with_reducible assumption) | assumption)
         obtain ⟨ad4, e4, hx4_0, hx4_1, hx4_2⟩ := zea HR1.out x5_1 p4 q4
         obtain rfl : ad2 = ad4 := (by injection e4)
         replace p4 := eq_true p4
         replace q4 := eq_true q4
         go_wp2
         repeat (go_quiet (fail); try go_wp2)
         go_ret
         exact ⟨by first | rfl | (simp; done) | (simp [*]; done), by repeat (first | exact zaO.refl _ | apply zaO.step)⟩
       ·rw [if_neg c7] at H
        have c7b0 : (((zbV l0 x5_1).f0) == ((zbV l1 x5_1).f0)) = false := beq_eq_false_iff_ne.mpr c7
        have c7b1 : (((zbV l0 x5_1).f0) != ((zbV l1 x5_1).f0)) = true := bne_iff_ne.mpr c7
        obtain rfl := Option.some.inj H
        have p1 : 0 ≤ (x5_1 : Int) := zDO (by first | (with_reducible assumption) | assumption)
        have q1 : x5_1 < (l0.length : Int) := zDO (by first | (with_reducible assumption) | assumption)
        obtain ⟨ad1, e1, hx1_0, hx1_1, hx1_2⟩ := zea HR0.out x5_1 p1 q1
        cases e1
        replace p1 := eq_true p1
        replace q1 := eq_true q1
        have p2 : 0 ≤ (x5_1 : Int) := zDO (by first | (with_reducible assumption) | assumption)
        have q2 : x5_1 < (l1.length : Int) := zDO (by first | (with_reducible assumption) | assumption)
        obtain ⟨ad2, e2, hx2_0, hx2_1, hx2_2⟩ := zea HR1.out x5_1 p2 q2
        cases e2
        replace p2 := eq_true p2
        replace q2 := eq_true q2
        go_wp2
        repeat (go_quiet (fail); try go_wp2)
        go_ret
        exact ⟨by first | rfl | (simp; done) | (simp [*]; done), by repeat (first | exact zaO.refl _ | apply zaO.step)⟩
      ·rw [if_neg c6] at H
       exact absurd H (by simp)
     ·rw [if_neg c5] at H
      exact absurd H (by simp)
    ·rw [if_neg c4] at H
     have c4b0 : decide (x5_1 < (l0.length : Int)) = false := zDF c4
     clear c4
     obtain rfl := Option.some.inj H
     go_wp2
     repeat (go_quiet (fail); try go_wp2)
     go_ret
     exact ⟨by first | rfl | (simp; done) | (simp [*]; done), by repeat (first | exact zaO.refl _ | apply zaO.step)⟩
 ·rw [if_neg c3] at H
  have c3b0 : ((l0.length : Int) == (l1.length : Int)) = false := beq_eq_false_iff_ne.mpr c3
  have c3b1 : ((l0.length : Int) != (l1.length : Int)) = true := bne_iff_ne.mpr c3
  have c3b2 : (l0.length == l1.length) = false := by first | simpa using c3 | (simp at c3 ⊢; omega)
  obtain rfl := Option.some.inj H
  go_enter Tryz.func10, Tryz.ntmps10
  go_wp2
  repeat (go_quiet (fail); try go_wp2)
  go_ret
  exact ⟨by first | rfl | (simp; done) | (simp [*]; done), by repeat (first | exact zaO.refl _ | apply zaO.step)⟩
mutual
def zac.l0 : Nat → List (S51) → List Int → ByteArray → List (S33) → Int → Option (Bool)
 | 0, _, _, _, _, _ => none
 | k + 1, x0, x1, x5, x6, x7 => if x7 < (x0.length : Int) then (zac.j1 k x0 x1 x5 x6 x7 (decide (x7 < 40))) else (zac.j1 k x0 x1 x5 x6 x7 false)
def zac.j1 : Nat → List (S51) → List Int → ByteArray → List (S33) → Int → Bool → Option (Bool)
 | 0, _, _, _, _, _, _ => none
 | k + 1, x0, x1, x5, x6, x7, x22 => if x22 = true then (zac.l1 k x0 x1 x5 x6 x7 0) else (if x5.size + 1 ≤ 9223372036854775807 then ((zaF.f k (x5 ++ (⟨#[10]⟩ : ByteArray))).bind fun bt27 => (if (x5.size : Int) ≥ 4096 then (if bt27.2.2 = 5 then ((zaJ.f k).bind fun t32 => (some t32)) else (some false)) else (if bt27.2.2 = 0 then (if bt27.2.1 = 0 then ((zan.f k bt27.1).bind fun t33 => ((zat.f k t33 x6).bind fun t36 => (zac.j3 k x6 bt27.1 (!t36)))) else (zac.j3 k x6 bt27.1 true)) else (zac.j3 k x6 bt27.1 true)))) else (none))
def zac.l1 : Nat → List (S51) → List Int → ByteArray → List (S33) → Int → Int → Option (Bool)
 | 0, _, _, _, _, _, _ => none
 | k + 1, x0, x1, x5, x6, x7, x8 => if x8 < (x1.length : Int) then (if x8 < 5 then ((some (([32, 9, 10, 13] : List Int) : List Int)).bind fun y1 => (if 0 ≤ x8 then (if 0 ≤ (Int.tmod (rd x1 x8) 4) then (if (Int.tmod (rd x1 x8) 4) < (y1.length : Int) then ((some (([rd y1 (Int.tmod (rd x1 x8) 4)] : List Int) : List Int)).bind fun y6 => (if x5.size + (strOfNums y6).size ≤ 9223372036854775807 then (zac.l1 k x0 x1 (x5 ++ (strOfNums y6)) x6 x7 (wrap64 (x8 + 1))) else (none))) else (none)) else (none)) else (none))) else (if 0 ≤ x7 then (if x7 < (x0.length : Int) then ((zaj.f k ((zcI x0 x7).f0) ((zcI x0 x7).f1) ((zcI x0 x7).f2)).bind fun bt10 => (if x5.size + 1 ≤ 9223372036854775807 then (if (x5 ++ (⟨#[32]⟩ : ByteArray)).size + bt10.1.size ≤ 9223372036854775807 then (if x6.length < 4398046511104 then (zac.l0 k x0 x1 ((x5 ++ (⟨#[32]⟩ : ByteArray)) ++ bt10.1) (x6 ++ [(⟨bt10.2.1, bt10.2.2.1, wrap64 ((x5.size : Int) + 1)⟩ : S33)]) (wrap64 (x7 + 1))) else (none)) else (none)) else (none))) else (none)) else (none))) else (if 0 ≤ x7 then (if x7 < (x0.length : Int) then ((zaj.f k ((zcI x0 x7).f0) ((zcI x0 x7).f1) ((zcI x0 x7).f2)).bind fun bt19 => (if x5.size + 1 ≤ 9223372036854775807 then (if (x5 ++ (⟨#[32]⟩ : ByteArray)).size + bt19.1.size ≤ 9223372036854775807 then (if x6.length < 4398046511104 then (zac.l0 k x0 x1 ((x5 ++ (⟨#[32]⟩ : ByteArray)) ++ bt19.1) (x6 ++ [(⟨bt19.2.1, bt19.2.2.1, wrap64 ((x5.size : Int) + 1)⟩ : S33)]) (wrap64 (x7 + 1))) else (none)) else (none)) else (none))) else (none)) else (none))
def zac.j3 : Nat → List (S33) → List (S32) → Bool → Option (Bool)
 | 0, _, _, _ => none
 | k + 1, x6, x11, x94 => if x94 = true then (some false) else (zac.l2 k x6 x11 0)
def zac.l2 : Nat → List (S33) → List (S32) → Int → Option (Bool)
 | 0, _, _, _ => none
 | k + 1, x6, x11, x14 => if x14 < (x6.length : Int) then (if 0 ≤ x14 then (if x14 < (x11.length : Int) then (if ((zbB x11 x14).f2) = ((zbV x6 x14).f2) then (zac.l2 k x6 x11 (wrap64 (x14 + 1))) else (some false)) else (none)) else (none)) else ((zaJ.f k).bind fun t39 => (some t39))
end
def zac.f (k : Nat) (l0 : List (S51)) (l1 : List Int) : Option (Bool) := zac.l0 k l0 l1 (⟨#[]⟩ : ByteArray) ([] : List (S33)) 0
theorem zac.zbp : ∀ k, (∀ y0 y1 y2 y3 y4, LeO (zac.l0 k y0 y1 y2 y3 y4) (zac.l0 (k + 1) y0 y1 y2 y3 y4)) ∧ (∀ y0 y1 y2 y3 y4 y5, LeO (zac.j1 k y0 y1 y2 y3 y4 y5) (zac.j1 (k + 1) y0 y1 y2 y3 y4 y5)) ∧ (∀ y0 y1 y2 y3 y4 y5, LeO (zac.l1 k y0 y1 y2 y3 y4 y5) (zac.l1 (k + 1) y0 y1 y2 y3 y4 y5)) ∧ (∀ y0 y1 y2, LeO (zac.j3 k y0 y1 y2) (zac.j3 (k + 1) y0 y1 y2)) ∧ (∀ y0 y1 y2, LeO (zac.l2 k y0 y1 y2) (zac.l2 (k + 1) y0 y1 y2))
 | 0 => ⟨fun _ _ _ _ _ r h => by simp [zac.l0] at h, fun _ _ _ _ _ _ r h => by simp [zac.j1] at h, fun _ _ _ _ _ _ r h => by simp [zac.l1] at h, fun _ _ _ r h => by simp [zac.j3] at h, fun _ _ _ r h => by simp [zac.l2] at h⟩
 | k + 1 => by
  obtain ⟨ih0, ih1, ih2, ih3, ih4⟩ := zac.zbp k
  refine ⟨?_, ?_, ?_, ?_, ?_⟩
  ·intro y0 y1 y2 y3 y4
   unfold zac.l0
   repeat' with_reducible first | exact ih0 _ _ _ _ _ | exact ih1 _ _ _ _ _ _ | exact ih2 _ _ _ _ _ _ | exact ih3 _ _ _ | exact ih4 _ _ _ | exact zaJ.mono _ | exact zan.mono _ _ | exact zaj.mono _ _ _ _ | exact zat.mono _ _ _ | exact zaF.mono _ _ | exact LeO.refl _ | exact LeO.none _ | refine LeO.ite ?_ ?_ | refine LeO.bind ?_ (fun _ => ?_)
  ·intro y0 y1 y2 y3 y4 y5
   unfold zac.j1
   repeat' with_reducible first | exact ih0 _ _ _ _ _ | exact ih1 _ _ _ _ _ _ | exact ih2 _ _ _ _ _ _ | exact ih3 _ _ _ | exact ih4 _ _ _ | exact zaJ.mono _ | exact zan.mono _ _ | exact zaj.mono _ _ _ _ | exact zat.mono _ _ _ | exact zaF.mono _ _ | exact LeO.refl _ | exact LeO.none _ | refine LeO.ite ?_ ?_ | refine LeO.bind ?_ (fun _ => ?_)
  ·intro y0 y1 y2 y3 y4 y5
   unfold zac.l1
   repeat' with_reducible first | exact ih0 _ _ _ _ _ | exact ih1 _ _ _ _ _ _ | exact ih2 _ _ _ _ _ _ | exact ih3 _ _ _ | exact ih4 _ _ _ | exact zaJ.mono _ | exact zan.mono _ _ | exact zaj.mono _ _ _ _ | exact zat.mono _ _ _ | exact zaF.mono _ _ | exact LeO.refl _ | exact LeO.none _ | refine LeO.ite ?_ ?_ | refine LeO.bind ?_ (fun _ => ?_)
  ·intro y0 y1 y2
   unfold zac.j3
   repeat' with_reducible first | exact ih0 _ _ _ _ _ | exact ih1 _ _ _ _ _ _ | exact ih2 _ _ _ _ _ _ | exact ih3 _ _ _ | exact ih4 _ _ _ | exact zaJ.mono _ | exact zan.mono _ _ | exact zaj.mono _ _ _ _ | exact zat.mono _ _ _ | exact zaF.mono _ _ | exact LeO.refl _ | exact LeO.none _ | refine LeO.ite ?_ ?_ | refine LeO.bind ?_ (fun _ => ?_)
  ·intro y0 y1 y2
   unfold zac.l2
   repeat' with_reducible first | exact ih0 _ _ _ _ _ | exact ih1 _ _ _ _ _ _ | exact ih2 _ _ _ _ _ _ | exact ih3 _ _ _ | exact ih4 _ _ _ | exact zaJ.mono _ | exact zan.mono _ _ | exact zaj.mono _ _ _ _ | exact zat.mono _ _ _ | exact zaF.mono _ _ | exact LeO.refl _ | exact LeO.none _ | refine LeO.ite ?_ ?_ | refine LeO.bind ?_ (fun _ => ?_)
theorem zac.mono : ∀ a0 a1 k, LeO (zac.f k a0 a1) (zac.f (k + 1) a0 a1) := by
 intro a0 a1 k
 obtain ⟨ih0, ih1, ih2, ih3, ih4⟩ := zac.zbp k
 unfold zac.f
 repeat' with_reducible first | exact ih0 _ _ _ _ _ | exact ih1 _ _ _ _ _ _ | exact ih2 _ _ _ _ _ _ | exact ih3 _ _ _ | exact ih4 _ _ _ | exact zaJ.mono _ | exact zan.mono _ _ | exact zaj.mono _ _ _ _ | exact zat.mono _ _ _ | exact zaF.mono _ _ | exact LeO.refl _ | exact LeO.none _ | refine LeO.ite ?_ ?_ | refine LeO.bind ?_ (fun _ => ?_)
theorem zkK {n : Nat} (h : n + 1 ≤ 9223372036854775807) : wrap64 ((n : Int) + 1) = (n : Int) + 1 := by unfold wrap64; omega
theorem zac.calls (k : Nat) (A0 : Option Addr) (c0 : Nat) (l0 : List (S51)) (A1 : Option Addr) (c1 : Nat) (l1 : List Int) (r : Bool) (w : World) (hr0 : Kd.C k51 w A0 l0.length l0) (hc0 : l0.length ≤ c0) (hr1 : Kd.C (Kd.int .u8) w A1 l1.length l1) (hc1 : l1.length ≤ c1) (hG : zaa (G w)) (h : zac.f k l0 l1 = some r) :
  Calls Tryz.prog 7 #[.slice A0 l0.length c0, .slice A1 l1.length c1] w fun e w' => e = .returned (.bool r) ∧ Below w.heap.size w w' := by
 have hu51 := Tryz.underlying51
 have hu33 := Tryz.underlying33
 have HR0 := zaa.mk hr0
 have HC0 := zaa.mk hc0
 clear hr0 hc0
 have HR1 := zaa.mk hr1
 have HC1 := zaa.mk hc1
 clear hr1 hc1
 have HB := zaa.mk (Below.refl w.heap.size w)
 have H : (zac.l0 k l0 l1 (⟨#[]⟩ : ByteArray) ([] : List (S33)) 0) = some r := h
 clear h
 have H' := zaa.mk H
 clear H
 go_enter Tryz.func7, Tryz.ntmps7
 go_wp2
 repeat (go_quiet (fail); try go_wp2)
 go_loopg [5, 6, 7] k (fun kq v5 v6 v7 w' => ∃ (x5_1 : ByteArray) (x6_1 : List (S33)) (x7_1 : Int), v5 = .string x5_1 ∧ v7 = .int .i64 x7_1 ∧ zaa (zac.l0 kq l0 l1 x5_1 x6_1 x7_1 = some r) ∧ zaa (kq ≤ k) ∧ zaa (Kd.R k33 33 w' w.heap.size (fun _ => True) v6 x6_1) ∧ zaa (Below w.heap.size w w'))
 case atStart => exact ⟨((⟨#[]⟩ : ByteArray)), (([] : List (S33))), (0), rs, rs, H', ⟨Nat.le_refl _⟩, ⟨by first | exact Kd.zcl _ _ _ _ _ | exact Kd.zdi _ _ _ _ _ | exact Kd.zcA _ _ _ _ _ | exact Kd.zdf _ _ _ _ _ | exact Kd.zdh _ _ _ _ _⟩, ⟨lb⟩⟩
 case round =>
  clear H'
  try clear c1
  try clear p2
  obtain ⟨x5_1, x6_1, x7_1, rfl, rfl, HA, HK1, HO_6, HB⟩ := hrel
  cases gk with
  | zero => exact absurd HA.out (by simp [zac.l0])
  | succ k1 =>
   have H := HA.out
   clear HA
   simp only [zac.l0] at H
   have HC3 := zaa.mk H
   clear H
   go_upto_region 4 with (fail)
   repeat (go_quiet (fail); go_upto_region 4 with (fail))
   go_cut [22] (fun v22 wc => ∃ (kq : Nat) (x22_2 : Bool), v22 = .bool x22_2 ∧ zaa (zac.j1 kq l0 l1 x5_1 x6_1 x7_1 x22_2 = some r) ∧ zaa (kq ≤ k1) ∧ zaa (Kd.R k33 33 wc w.heap.size (fun _ => True) u6 x6_1) ∧ zaa (Below w.heap.size w wc))
   case first =>
    have H := HC3.out
    clear HC3
    by_cases c4 : x7_1 < (l0.length : Int)
    ·rw [if_pos c4] at H
     have c4b0 : decide (x7_1 < (l0.length : Int)) = true := zDT c4
     clear c4
     (first | rw [c4b0] | (simp only [zbs, zbR]; rw [c4b0]) | skip)
     have H' := zaa.mk H
     clear H
     go_wp2
     repeat (go_quiet (fail); try go_wp2)
     go_meet
     case rel => exact ⟨_, (decide (x7_1 < 40)), rs, H', ⟨by have := HK1.out; first | omega | exact Nat.le_refl _⟩, ⟨by (with_reducible repeat (first | apply Kd.zaQ | apply Kd.zaR | apply Kd.zbb)); exact HO_6.out⟩, ⟨lb⟩⟩
    ·rw [if_neg c4] at H
     have c4b0 : decide (x7_1 < (l0.length : Int)) = false := zDF c4
     clear c4
     (first | rw [c4b0] | (simp only [zbs, zbR]; rw [c4b0]) | skip)
     have H' := zaa.mk H
     clear H
     go_wp2
     repeat (go_quiet (fail); try go_wp2)
     go_meet
     case rel => exact ⟨_, (false), rs, H', ⟨by have := HK1.out; first | omega | exact Nat.le_refl _⟩, ⟨by (with_reducible repeat (first | apply Kd.zaQ | apply Kd.zaR | apply Kd.zbb)); exact HO_6.out⟩, ⟨lb⟩⟩
   case rest =>
    clear HC3
    try clear c1
    try clear p2
    try clear c4
    try clear c4b0
    try clear p2
    obtain ⟨kq, x22_2, rfl, HA, HJ2, HO_6, HB⟩ := hcut
    cases kq with
    | zero => exact absurd HA.out (by simp [zac.j1])
    | succ kj2 =>
     have H := HA.out
     clear HA
     simp only [zac.j1] at H
     by_cases c5 : x22_2 = true
     ·subst c5
      have H1 : (zac.l1 kj2 l0 l1 x5_1 x6_1 x7_1 0) = some r := by rw [if_pos rfl] at H; exact H
      clear H
      have H := H1
      clear H1
      have H' := zaa.mk H
      clear H
      go_wp2
      repeat (go_quiet (fail); try go_wp2)
      go_loopg [5, 8] kj2 (fun kq v5 v8 w' => ∃ (x5_3 : ByteArray) (x8_3 : Int), v5 = .string x5_3 ∧ v8 = .int .i64 x8_3 ∧ zaa (zac.l1 kq l0 l1 x5_3 x6_1 x7_1 x8_3 = some r) ∧ zaa (kq ≤ kj2) ∧ zaa (Kd.R k33 33 w' w.heap.size (fun _ => True) u6 x6_1) ∧ zaa (Below w.heap.size w w'))
      case atStart => exact ⟨(x5_1), (0), rs, rs, H', ⟨Nat.le_refl _⟩, ⟨by (with_reducible repeat (first | apply Kd.zaQ | apply Kd.zaR | apply Kd.zbb)); exact HO_6.out⟩, ⟨lb⟩⟩
      case round =>
       clear H'
       try clear c1
       try clear p2
       try clear c4
       try clear c4b0
       try clear c5
       try clear p2
       obtain ⟨x5_3, x8_3, rfl, rfl, HA, HK3, HO_6, HB⟩ := hrel
       cases gk with
       | zero => exact absurd HA.out (by simp [zac.l1])
       | succ k3 =>
        have H := HA.out
        clear HA
        simp only [zac.l1] at H
        by_cases c6 : x8_3 < (l1.length : Int)
        ·rw [if_pos c6] at H
         have c6b0 : decide (x8_3 < (l1.length : Int)) = true := zDT c6
         clear c6
         by_cases c7 : x8_3 < 5
         ·rw [if_pos c7] at H
          have c7b0 : decide (x8_3 < 5) = true := zDT c7
          clear c7
          obtain ⟨y1, hy1⟩ : ∃ y_ : List Int, y_ = (([32, 9, 10, 13] : List Int)) := ⟨_, rfl⟩
          replace H : (if 0 ≤ x8_3 then (if 0 ≤ (Int.tmod (rd l1 x8_3) 4) then (if (Int.tmod (rd l1 x8_3) 4) < (y1.length : Int) then ((some (([rd y1 (Int.tmod (rd l1 x8_3) 4)] : List Int) : List Int)).bind fun y6 => (if x5_3.size + (strOfNums y6).size ≤ 9223372036854775807 then (zac.l1 k3 l0 l1 (x5_3 ++ (strOfNums y6)) x6_1 x7_1 (wrap64 (x8_3 + 1))) else (none))) else (none)) else (none)) else (none)) = some r := by first | (rw [hy1]; with_reducible exact H) | (have H2_ := (Option.bind_some _ _).symm.trans H; rw [hy1]; with_reducible exact H2_) | (have H2_ := (Option.bind_some _ _).symm.trans H; with_reducible exact H2_) | with_reducible exact H | (rw [hy1]; exact H) | exact H
          have Ny1 := zaa.mk hy1
          clear hy1
          by_cases c8 : 0 ≤ x8_3
          ·rw [if_pos c8] at H
           have c8b0 : decide (0 ≤ x8_3) = true := zDT c8
           clear c8
           obtain ⟨ji9, hji9⟩ : ∃ j_ : Int, (Int.tmod (rd l1 x8_3) 4) = j_ := ⟨_, rfl⟩
           replace H : (if 0 ≤ (ji9) then (if (ji9) < (y1.length : Int) then ((some (([rd y1 (ji9)] : List Int) : List Int)).bind fun y6 => (if x5_3.size + (strOfNums y6).size ≤ 9223372036854775807 then (zac.l1 k3 l0 l1 (x5_3 ++ (strOfNums y6)) x6_1 x7_1 (wrap64 (x8_3 + 1))) else (none))) else (none)) else (none)) = some r := by first | (rw [hji9] at H; exact H) | (simp only [hji9] at H ⊢; exact H)
           by_cases c10 : 0 ≤ (ji9)
           ·rw [if_pos c10] at H
            have c10b0 : decide (0 ≤ (ji9)) = true := zDT c10
            clear c10
            by_cases c11 : (ji9) < (y1.length : Int)
            ·rw [if_pos c11] at H
             have c11b0 : decide ((ji9) < (y1.length : Int)) = true := zDT c11
             clear c11
             obtain ⟨y6, hy6⟩ : ∃ y_ : List Int, y_ = (([rd y1 (ji9)] : List Int)) := ⟨_, rfl⟩
             replace H : (if x5_3.size + (strOfNums y6).size ≤ 9223372036854775807 then (zac.l1 k3 l0 l1 (x5_3 ++ (strOfNums y6)) x6_1 x7_1 (wrap64 (x8_3 + 1))) else (none)) = some r := by first | (rw [hy6]; with_reducible exact H) | (have H2_ := (Option.bind_some _ _).symm.trans H; rw [hy6]; with_reducible exact H2_) | (have H2_ := (Option.bind_some _ _).symm.trans H; with_reducible exact H2_) | with_reducible exact H | (rw [hy6]; exact H) | exact H
             have Ny6 := zaa.mk hy6
             clear hy6
             by_cases c12 : x5_3.size + (strOfNums y6).size ≤ 9223372036854775807
             ·rw [if_pos c12] at H
              have c12b0 := eq_true c12
              have c12b1 : decide (x5_3.size + (strOfNums y6).size ≤ 9223372036854775807) = true := zDT c12
              try have c12b2 : (9223372036854775807 < x5_3.size + (strOfNums y6).size) = False := eq_false (Nat.not_lt.2 c12)
              have H' := zaa.mk H
              clear H
              iterate 3 ((try go_quiet (fail)); try go_wp2_with (first | ((with_reducible refine zaA (N := 36) rfl ?_); refine Kd.zf2 (Kd.int .u8) _ 5 ?hg (N := 36) ?hd (xs := ([32, 9, 10, 13] : List Int)) (inner := [.int .u8 32, .int .u8 9, .int .u8 10, .int .u8 13]) (ok := fun _ => True) (okp := fun _ => True) ?hr ?hp (fun _ hk => hk) trivial (Below.refl _ _) (Nat.le_refl _) (by simp) ?_; (case hd => rfl); (case hg => rfl); (case hr => first | (go_simp; done) | (go_simp; rfl)); (case hp => repeat (first | exact zb5.none _ _ | refine zb5.one rfl ?_)); intro v2 w13 ho14 hb hg_ hnew_; clear hg_ hnew_; (first | rw [← Ny1.out] at ho14 | (simp only [Int.reduceToNat] at ho14; rw [← Ny1.out] at ho14)); have n0_ := zaa.mk (Kd.zaS (rc HO_6.out) hb); have n1_ := zaa.mk (Kd.zaz ho14 (zad (lc HB.out))); have n2_ := zaa.mk (zab (lc HB.out) hb); clear HO_6; clear HB; have HO_6 := n0_; have HO3 := n1_; have HB := n2_; clear n0_ n1_ n2_; clear hb ho14; have p4 : 0 ≤ (x8_3 : Int) := zDO (by first | (with_reducible assumption) | assumption); have q4 : x8_3 < (l1.length : Int) := zDO (by first | (with_reducible assumption) | assumption); obtain ⟨ad4, e4, hx4_0⟩ := Kd.zbT HR1.out x8_3 p4 q4; cases e4; replace hx4_0 := (HB.out.cell (World.block_lt_of_cell? w _ hx4_0)).trans hx4_0; replace p4 := eq_true p4; replace q4 := eq_true q4; obtain ⟨Ao15, co15, eo15⟩ := Kd.zaC HO3.out; subst eo15; have p5 : 0 ≤ ((ji9) : Int) := zDO (by first | (with_reducible assumption) | assumption); have q5 : (ji9) < (y1.length : Int) := zDO (by first | (with_reducible assumption) | assumption); obtain ⟨ad5, e5, hx5_0⟩ := Kd.zbT (Kd.zax HO3.out).2.2 (ji9) p5 q5; cases e5; replace p5 := eq_true p5; replace q5 := eq_true q5) | ((with_reducible refine zaA (N := 44) rfl ?_); refine Kd.zf2 (Kd.int .u8) _ 5 ?hg (N := 44) ?hd (xs := ([rd y1 (ji9)] : List Int)) (inner := [.int .u8 (rd y1 (ji9))]) (ok := fun _ => True) (okp := fun _ => True) ?hr ?hp (fun _ hk => hk) trivial (Below.refl _ _) (Nat.le_refl _) (by simp) ?_; (case hd => rfl); (case hg => rfl); (case hr => first | (go_simp; done) | (go_simp; rfl)); (case hp => repeat (first | exact zb5.none _ _ | refine zb5.one rfl ?_)); intro v7 w16 ho17 hb hg_ hnew_; clear hg_ hnew_; (first | rw [← Ny6.out] at ho17 | (simp only [Int.reduceToNat] at ho17; rw [← Ny6.out] at ho17)); have n0_ := zaa.mk (Kd.zaS (rc HO_6.out) hb); have n1_ := zaa.mk (Kd.zf9 (rc HO3.out) (Kd.zbk ho17) hb); have n2_ := zaa.mk (Kd.zaz (Kd.zbq ho17 (Kd.zcH (rc HO3.out))) (zad (lc HB.out))); have n3_ := zaa.mk (zab (lc HB.out) hb); clear HO_6; clear HO3; clear HB; have HO_6 := n0_; have HO3 := n1_; have HO8 := n2_; have HB := n3_; clear n0_ n1_ n2_ n3_; clear hb ho17; have hcv18 := zhl (P := Tryz.prog) Tryz.underlying47 Tryz.underlying5 Tryz.underlying9 (Kd.zeY HO8.out))))
              go_roundg k3
              case measure => have := HK1.out; have := HJ2.out; have := HK3.out; omega
              case rel => exact ⟨(x5_3 ++ (strOfNums y6)), (wrap64 (x8_3 + 1)), rs, rs, H', ⟨by have := HK1.out; have := HJ2.out; have := HK3.out; omega⟩, ⟨by (with_reducible repeat (first | apply Kd.zaQ | apply Kd.zaR | apply Kd.zbb)); exact HO_6.out⟩, ⟨lb⟩⟩
             ·rw [if_neg c12] at H
              exact absurd H (by simp)
            ·rw [if_neg c11] at H
             exact absurd H (by simp)
           ·rw [if_neg c10] at H
            exact absurd H (by simp)
          ·rw [if_neg c8] at H
           exact absurd H (by simp)
         ·rw [if_neg c7] at H
          have c7b0 : decide (x8_3 < 5) = false := zDF c7
          clear c7
          by_cases c19 : 0 ≤ x7_1
          ·rw [if_pos c19] at H
           have c19b0 : decide (0 ≤ x7_1) = true := zDT c19
           clear c19
           by_cases c20 : x7_1 < (l0.length : Int)
           ·rw [if_pos c20] at H
            have c20b0 : decide (x7_1 < (l0.length : Int)) = true := zDT c20
            clear c20
            replace H := zBE H
            obtain ⟨⟨t10, t11, t12, t13⟩, A210, H⟩ := H
            replace H : (if x5_3.size + 1 ≤ 9223372036854775807 then (if (x5_3 ++ (⟨#[32]⟩ : ByteArray)).size + t10.size ≤ 9223372036854775807 then (if x6_1.length < 4398046511104 then (zac.l0 k3 l0 l1 ((x5_3 ++ (⟨#[32]⟩ : ByteArray)) ++ t10) (x6_1 ++ [(⟨t11, t12, wrap64 ((x5_3.size : Int) + 1)⟩ : S33)]) (wrap64 (x7_1 + 1))) else (none)) else (none)) else (none)) = some r := H
            have A21 := zaa.mk A210
            clear A210
            by_cases c22 : x5_3.size + 1 ≤ 9223372036854775807
            ·rw [if_pos c22] at H
             have c22b0 := eq_true c22
             have c22b1 : decide (x5_3.size + 1 ≤ 9223372036854775807) = true := zDT c22
             have hW1 : wrap64 ((x5_3.size : Int) + 1) = ((x5_3.size : Int) + 1) := zkK c22
             rw [hW1] at H
             clear hW1
             try have c22b2 : (9223372036854775807 < x5_3.size + 1) = False := eq_false (Nat.not_lt.2 c22)
             by_cases c23 : (x5_3 ++ (⟨#[32]⟩ : ByteArray)).size + t10.size ≤ 9223372036854775807
             ·rw [if_pos c23] at H
              have c23b0 := eq_true c23
              have c23b1 : decide ((x5_3 ++ (⟨#[32]⟩ : ByteArray)).size + t10.size ≤ 9223372036854775807) = true := zDT c23
              try have c23b2 : (9223372036854775807 < (x5_3 ++ (⟨#[32]⟩ : ByteArray)).size + t10.size) = False := eq_false (Nat.not_lt.2 c23)
              by_cases c24 : x6_1.length < 4398046511104
              ·rw [if_pos c24] at H
               have LMc24 := zaa.mk c24
               clear c24
               obtain ⟨y15, hy15⟩ : ∃ y_ : List (S33), y_ = (x6_1 ++ [(⟨t11, t12, ((x5_3.size : Int) + 1)⟩ : S33)]) := ⟨_, rfl⟩
               replace H : (zac.l0 k3 l0 l1 ((x5_3 ++ (⟨#[32]⟩ : ByteArray)) ++ t10) y15 (wrap64 (x7_1 + 1))) = some r := by first | (rw [hy15]; with_reducible exact H) | (have H2_ := (Option.bind_some _ _).symm.trans H; rw [hy15]; with_reducible exact H2_) | (have H2_ := (Option.bind_some _ _).symm.trans H; with_reducible exact H2_) | with_reducible exact H | (rw [hy15]; exact H) | exact H
               have Ny15 := zaa.mk hy15
               clear hy15
               have H' := zaa.mk H
               clear H
               have p9 : 0 ≤ (x7_1 : Int) := zDO (by first | (with_reducible assumption) | assumption)
               have q9 : x7_1 < (l0.length : Int) := zDO (by first | (with_reducible assumption) | assumption)
               obtain ⟨ad9, e9, hx9_0, hx9_1, hx9_2⟩ := zox HR0.out x7_1 p9 q9
               cases e9
               replace hx9_0 := (HB.out.cell (World.block_lt_of_cell? w _ hx9_0)).trans hx9_0
               replace hx9_1 := (HB.out.cell (World.block_lt_of_cell? w _ hx9_1)).trans hx9_1
               replace hx9_2 := (HB.out.cell (World.block_lt_of_cell? w _ hx9_2)).trans hx9_2
               replace p9 := eq_true p9
               replace q9 := eq_true q9
               iterate 3 ((try go_quiet (fail)); try go_wp2_with (first | (go_at_call 18; (with_reducible refine (zaj.calls k3 ((zcI l0 x7_1).f0) ((zcI l0 x7_1).f1) ((zcI l0 x7_1).f2) t10 t11 t12 t13 _ ?side1 A21.out).mono ?_); (case side1 => exact G.at hG.out (lc HB.out)); rintro e w25 ⟨rfl, hb⟩; have n0_ := zaa.mk (Kd.zaS (rc HO_6.out) hb); have n1_ := zaa.mk (zab (lc HB.out) hb); clear HO_6; clear HB; have HO_6 := n0_; have HB := n1_; clear n0_ n1_; (try clear hb); (try clear hb2); (try clear hk); (try clear hi)) | ((with_reducible refine zaA (N := 10) rfl ?_); refine zaN ?hg (N := 10) ?hd (cs := #[.int .i64 0, .string (⟨#[]⟩ : ByteArray), .int .i64 0]) (t := 33) ?hr ?_; (case hd => rfl); (case hg => rfl); (case hr => first | (go_simp; done) | (go_simp; rfl)); intro gb14 hg w26 hbox hb; have n0_ := zaa.mk (Kd.zaS (Kd.zga (rc HO_6.out) gb14 (Nat.le_of_eq hg.symm)) hb); have n1_ := zaa.mk (zab (lc HB.out) hb); have n2_ := zaa.mk (hbox); have n3_ := zaa.mk ((by rw [hg]; exact (zad (lc HB.out)) : w.heap.size ≤ gb14)); have n4_ := zaa.mk ((by rw [hg]; exact (zad (lc HB.out)) : w.heap.size ≤ gb14)); clear HO_6; clear HB; have HO_6 := n0_; have HB := n1_; have BK14 := n2_; have GW14 := n3_; have GE14 := n4_; clear n0_ n1_ n2_ n3_ n4_; clear hb hbox hg; have hcz27_0 : w26.cell? ⟨gb14, 0, none⟩ = some (.int .i64 0) := (zah BK14.out 0).trans rfl; have hcz27_1 : w26.cell? ⟨gb14, 1, none⟩ = some (.string (⟨#[]⟩ : ByteArray)) := (zah BK14.out 1).trans rfl; have hcz27_2 : w26.cell? ⟨gb14, 2, none⟩ = some (.int .i64 0) := (zah BK14.out 2).trans rfl; have hfz27_0 := zae BK14.out 0; have hfz27_1 := zae BK14.out 1; have hfz27_2 := zae BK14.out 2; (try have hbz_gb14_0 : w26.cell? ⟨gb14, 0, none⟩ = some (.int .i64 0) := (zah BK14.out 0).trans rfl); (try have hbf_gb14_0 := zae BK14.out 0); (try have hbz_gb14_1 : w26.cell? ⟨gb14, 1, none⟩ = some (.string (⟨#[]⟩ : ByteArray)) := (zah BK14.out 1).trans rfl); (try have hbf_gb14_1 := zae BK14.out 1); (try have hbz_gb14_2 : w26.cell? ⟨gb14, 2, none⟩ = some (.int .i64 0) := (zah BK14.out 2).trans rfl); (try have hbf_gb14_2 := zae BK14.out 2); (try have hst_gb14 : ∀ a_ b_ c_ d_ : Value, ((((w26.setCell ⟨gb14, 0, none⟩ a_).setCell ⟨gb14, 1, none⟩ b_).setCell ⟨gb14, 2, none⟩ c_).setCell ⟨gb14, 2, none⟩ d_).cell? ⟨gb14, 2, none⟩ = some d_ := fun a_ b_ c_ d_ => (zah (zaB (zaB (zaB (zaB BK14.out 0 a_ rfl) 1 b_ rfl) 2 c_ rfl) 2 d_ rfl) 2).trans rfl)) | ((with_reducible refine zcO (b := .append) (xs := #[.tmp 63, .tmp 65]) rfl ?_); at_builtin; refine Kd.zhT k33 (w0 := w) w.heap.size rfl (.tmp 63) (.tmp 65) 26 33 (.agg #[(.int .i64 0), (.string ⟨#[]⟩), (.int .i64 0)]) 32 rfl Tryz.underlying26 zme rfl (by decide) (by omega) u6 x6_1 (⟨t11, t12, ((x5_3.size : Int) + 1)⟩ : S33) [.int .i64 t11, .string t12, .int .i64 (((x5_3.size : Int) + 1))] (fun k_ => k_ ≠ gb14) (fun _ => False) rfl (by first | (go_simp; done) | (go_simp; rfl)) ?aP (fun _ hk => hk.elim) ?aF ?aO ?aB ?aS ?aL ?_; (case aP => exact zjF _ _ _ (⟨t11, t12, ((x5_3.size : Int) + 1)⟩ : S33)); (case aB => exact lb); (case aF => exact (fun k_ hk => Kd.ze1 (g := gb14) (o := .cells #[.int .i64 t11, .string t12, .int .i64 (((x5_3.size : Int) + 1))] 33 (0, 0)) (by (with_reducible repeat (first | refine zap ?_ _ | refine zar ?_ | refine zai ?_ _)); refine zaB (cs := #[.int .i64 t11, .string t12, .int .i64 t13]) ?_ 2 _ rfl; (with_reducible repeat (first | refine zap ?_ _ | refine zar ?_ | refine zai ?_ _)); refine zaB (cs := #[.int .i64 t11, .string t12, .int .i64 0]) ?_ 2 _ rfl; (with_reducible repeat (first | refine zap ?_ _ | refine zar ?_ | refine zai ?_ _)); refine zaB (cs := #[.int .i64 t11, .string (⟨#[]⟩ : ByteArray), .int .i64 0]) ?_ 1 _ rfl; (with_reducible repeat (first | refine zap ?_ _ | refine zar ?_ | refine zai ?_ _)); refine zaB (cs := #[.int .i64 0, .string (⟨#[]⟩ : ByteArray), .int .i64 0]) ?_ 0 _ rfl; (with_reducible repeat (first | refine zap ?_ _ | refine zar ?_ | refine zai ?_ _)); exact BK14.out) k_ hk)); (case aO => exact (by (with_reducible repeat (first | apply Kd.zaQ | apply Kd.zaR | apply Kd.zbb)); exact Kd.za7 (Kd.zck (p := ⟨gb14, 2, none⟩) (Kd.zck (p := ⟨gb14, 2, none⟩) (Kd.zck (p := ⟨gb14, 1, none⟩) (Kd.zck (p := ⟨gb14, 0, none⟩) (Kd.za7 HO_6.out (fun k_ hk => (⟨hk, hk.2⟩ : _ ∧ k_ ≠ gb14))) (fun _ hk => hk.2) (.int .i64 t11)) (fun _ hk => hk.2) (.string t12)) (fun _ hk => hk.2) (.int .i64 t13)) (fun _ hk => hk.2) (.int .i64 (((x5_3.size : Int) + 1)))) (fun _ hk => hk.1.2))); (case aS => exact (zad lb)); (case aL => have := LMc24.out; omega); intro v16 w28 ho hb hg hat; rw [← Ny15.out] at ho; have n0_ := zaa.mk (zgi (g := gb14) (o := .cells #[.int .i64 t11, .string t12, .int .i64 (((x5_3.size : Int) + 1))] 33 (0, 0)) (by (with_reducible repeat (first | refine zap ?_ _ | refine zar ?_ | refine zai ?_ _)); refine zaB (cs := #[.int .i64 t11, .string t12, .int .i64 t13]) ?_ 2 _ rfl; (with_reducible repeat (first | refine zap ?_ _ | refine zar ?_ | refine zai ?_ _)); refine zaB (cs := #[.int .i64 t11, .string t12, .int .i64 0]) ?_ 2 _ rfl; (with_reducible repeat (first | refine zap ?_ _ | refine zar ?_ | refine zai ?_ _)); refine zaB (cs := #[.int .i64 t11, .string (⟨#[]⟩ : ByteArray), .int .i64 0]) ?_ 1 _ rfl; (with_reducible repeat (first | refine zap ?_ _ | refine zar ?_ | refine zai ?_ _)); refine zaB (cs := #[.int .i64 0, .string (⟨#[]⟩ : ByteArray), .int .i64 0]) ?_ 0 _ rfl; (with_reducible repeat (first | refine zap ?_ _ | refine zar ?_ | refine zai ?_ _)); exact BK14.out) hg (Kd.zdN HO_6.out (fun _ hk => hk.2))); have n1_ := zaa.mk (hb); have n2_ := zaa.mk (ho); clear BK14; clear HB; clear HO_6; have BK14 := n0_; have HB := n1_; have HO17 := n2_; clear n0_ n1_ n2_; clear ho hb hg hat)))
               go_roundg k3
               case measure => have := HK1.out; have := HJ2.out; have := HK3.out; omega
               case rel => exact ⟨((x5_3 ++ (⟨#[32]⟩ : ByteArray)) ++ t10), (y15), (wrap64 (x7_1 + 1)), rs, rs, H', ⟨by have := HK1.out; have := HJ2.out; have := HK3.out; omega⟩, ⟨by (with_reducible repeat (first | apply Kd.zaQ | apply Kd.zaR | apply Kd.zbb)); exact Kd.za7 HO17.out (fun _ hk => trivial)⟩, ⟨lb⟩⟩
              ·rw [if_neg c24] at H
               exact absurd H (by simp)
             ·rw [if_neg c23] at H
              exact absurd H (by simp)
            ·rw [if_neg c22] at H
             exact absurd H (by simp)
           ·rw [if_neg c20] at H
            exact absurd H (by simp)
          ·rw [if_neg c19] at H
           exact absurd H (by simp)
        ·rw [if_neg c6] at H
         have c6b0 : decide (x8_3 < (l1.length : Int)) = false := zDF c6
         clear c6
         by_cases c29 : 0 ≤ x7_1
         ·rw [if_pos c29] at H
          have c29b0 : decide (0 ≤ x7_1) = true := zDT c29
          clear c29
          by_cases c30 : x7_1 < (l0.length : Int)
          ·rw [if_pos c30] at H
           have c30b0 : decide (x7_1 < (l0.length : Int)) = true := zDT c30
           clear c30
           replace H := zBE H
           obtain ⟨⟨t19, t20, t21, t22⟩, A310, H⟩ := H
           replace H : (if x5_3.size + 1 ≤ 9223372036854775807 then (if (x5_3 ++ (⟨#[32]⟩ : ByteArray)).size + t19.size ≤ 9223372036854775807 then (if x6_1.length < 4398046511104 then (zac.l0 k3 l0 l1 ((x5_3 ++ (⟨#[32]⟩ : ByteArray)) ++ t19) (x6_1 ++ [(⟨t20, t21, wrap64 ((x5_3.size : Int) + 1)⟩ : S33)]) (wrap64 (x7_1 + 1))) else (none)) else (none)) else (none)) = some r := H
           have A31 := zaa.mk A310
           clear A310
           by_cases c32 : x5_3.size + 1 ≤ 9223372036854775807
           ·rw [if_pos c32] at H
            have c32b0 := eq_true c32
            have c32b1 : decide (x5_3.size + 1 ≤ 9223372036854775807) = true := zDT c32
            have hW1 : wrap64 ((x5_3.size : Int) + 1) = ((x5_3.size : Int) + 1) := zkK c32
            rw [hW1] at H
            clear hW1
            try have c32b2 : (9223372036854775807 < x5_3.size + 1) = False := eq_false (Nat.not_lt.2 c32)
            by_cases c33 : (x5_3 ++ (⟨#[32]⟩ : ByteArray)).size + t19.size ≤ 9223372036854775807
            ·rw [if_pos c33] at H
             have c33b0 := eq_true c33
             have c33b1 : decide ((x5_3 ++ (⟨#[32]⟩ : ByteArray)).size + t19.size ≤ 9223372036854775807) = true := zDT c33
             try have c33b2 : (9223372036854775807 < (x5_3 ++ (⟨#[32]⟩ : ByteArray)).size + t19.size) = False := eq_false (Nat.not_lt.2 c33)
             by_cases c34 : x6_1.length < 4398046511104
             ·rw [if_pos c34] at H
              have LMc34 := zaa.mk c34
              clear c34
              obtain ⟨y24, hy24⟩ : ∃ y_ : List (S33), y_ = (x6_1 ++ [(⟨t20, t21, ((x5_3.size : Int) + 1)⟩ : S33)]) := ⟨_, rfl⟩
              replace H : (zac.l0 k3 l0 l1 ((x5_3 ++ (⟨#[32]⟩ : ByteArray)) ++ t19) y24 (wrap64 (x7_1 + 1))) = some r := by first | (rw [hy24]; with_reducible exact H) | (have H2_ := (Option.bind_some _ _).symm.trans H; rw [hy24]; with_reducible exact H2_) | (have H2_ := (Option.bind_some _ _).symm.trans H; with_reducible exact H2_) | with_reducible exact H | (rw [hy24]; exact H) | exact H
              have Ny24 := zaa.mk hy24
              clear hy24
              have H' := zaa.mk H
              clear H
              have p18 : 0 ≤ (x7_1 : Int) := zDO (by first | (with_reducible assumption) | assumption)
              have q18 : x7_1 < (l0.length : Int) := zDO (by first | (with_reducible assumption) | assumption)
              obtain ⟨ad18, e18, hx18_0, hx18_1, hx18_2⟩ := zox HR0.out x7_1 p18 q18
              cases e18
              replace hx18_0 := (HB.out.cell (World.block_lt_of_cell? w _ hx18_0)).trans hx18_0
              replace hx18_1 := (HB.out.cell (World.block_lt_of_cell? w _ hx18_1)).trans hx18_1
              replace hx18_2 := (HB.out.cell (World.block_lt_of_cell? w _ hx18_2)).trans hx18_2
              replace p18 := eq_true p18
              replace q18 := eq_true q18
              iterate 3 ((try go_quiet (fail)); try go_wp2_with (first | (go_at_call 18; (with_reducible refine (zaj.calls k3 ((zcI l0 x7_1).f0) ((zcI l0 x7_1).f1) ((zcI l0 x7_1).f2) t19 t20 t21 t22 _ ?side1 A31.out).mono ?_); (case side1 => exact G.at hG.out (lc HB.out)); rintro e w35 ⟨rfl, hb⟩; have n0_ := zaa.mk (Kd.zaS (rc HO_6.out) hb); have n1_ := zaa.mk (zab (lc HB.out) hb); clear HO_6; clear HB; have HO_6 := n0_; have HB := n1_; clear n0_ n1_; (try clear hb); (try clear hb2); (try clear hk); (try clear hi)) | ((with_reducible refine zaA (N := 10) rfl ?_); refine zaN ?hg (N := 10) ?hd (cs := #[.int .i64 0, .string (⟨#[]⟩ : ByteArray), .int .i64 0]) (t := 33) ?hr ?_; (case hd => rfl); (case hg => rfl); (case hr => first | (go_simp; done) | (go_simp; rfl)); intro gb23 hg w36 hbox hb; have n0_ := zaa.mk (Kd.zaS (Kd.zga (rc HO_6.out) gb23 (Nat.le_of_eq hg.symm)) hb); have n1_ := zaa.mk (zab (lc HB.out) hb); have n2_ := zaa.mk (hbox); have n3_ := zaa.mk ((by rw [hg]; exact (zad (lc HB.out)) : w.heap.size ≤ gb23)); have n4_ := zaa.mk ((by rw [hg]; exact (zad (lc HB.out)) : w.heap.size ≤ gb23)); clear HO_6; clear HB; have HO_6 := n0_; have HB := n1_; have BK23 := n2_; have GW23 := n3_; have GE23 := n4_; clear n0_ n1_ n2_ n3_ n4_; clear hb hbox hg; have hcz37_0 : w36.cell? ⟨gb23, 0, none⟩ = some (.int .i64 0) := (zah BK23.out 0).trans rfl; have hcz37_1 : w36.cell? ⟨gb23, 1, none⟩ = some (.string (⟨#[]⟩ : ByteArray)) := (zah BK23.out 1).trans rfl; have hcz37_2 : w36.cell? ⟨gb23, 2, none⟩ = some (.int .i64 0) := (zah BK23.out 2).trans rfl; have hfz37_0 := zae BK23.out 0; have hfz37_1 := zae BK23.out 1; have hfz37_2 := zae BK23.out 2; (try have hbz_gb23_0 : w36.cell? ⟨gb23, 0, none⟩ = some (.int .i64 0) := (zah BK23.out 0).trans rfl); (try have hbf_gb23_0 := zae BK23.out 0); (try have hbz_gb23_1 : w36.cell? ⟨gb23, 1, none⟩ = some (.string (⟨#[]⟩ : ByteArray)) := (zah BK23.out 1).trans rfl); (try have hbf_gb23_1 := zae BK23.out 1); (try have hbz_gb23_2 : w36.cell? ⟨gb23, 2, none⟩ = some (.int .i64 0) := (zah BK23.out 2).trans rfl); (try have hbf_gb23_2 := zae BK23.out 2); (try have hst_gb23 : ∀ a_ b_ c_ d_ : Value, ((((w36.setCell ⟨gb23, 0, none⟩ a_).setCell ⟨gb23, 1, none⟩ b_).setCell ⟨gb23, 2, none⟩ c_).setCell ⟨gb23, 2, none⟩ d_).cell? ⟨gb23, 2, none⟩ = some d_ := fun a_ b_ c_ d_ => (zah (zaB (zaB (zaB (zaB BK23.out 0 a_ rfl) 1 b_ rfl) 2 c_ rfl) 2 d_ rfl) 2).trans rfl)) | ((with_reducible refine zcO (b := .append) (xs := #[.tmp 63, .tmp 65]) rfl ?_); at_builtin; refine Kd.zhT k33 (w0 := w) w.heap.size rfl (.tmp 63) (.tmp 65) 26 33 (.agg #[(.int .i64 0), (.string ⟨#[]⟩), (.int .i64 0)]) 32 rfl Tryz.underlying26 zme rfl (by decide) (by omega) u6 x6_1 (⟨t20, t21, ((x5_3.size : Int) + 1)⟩ : S33) [.int .i64 t20, .string t21, .int .i64 (((x5_3.size : Int) + 1))] (fun k_ => k_ ≠ gb23) (fun _ => False) rfl (by first | (go_simp; done) | (go_simp; rfl)) ?aP (fun _ hk => hk.elim) ?aF ?aO ?aB ?aS ?aL ?_; (case aP => exact zjF _ _ _ (⟨t20, t21, ((x5_3.size : Int) + 1)⟩ : S33)); (case aB => exact lb); (case aF => exact (fun k_ hk => Kd.ze1 (g := gb23) (o := .cells #[.int .i64 t20, .string t21, .int .i64 (((x5_3.size : Int) + 1))] 33 (0, 0)) (by (with_reducible repeat (first | refine zap ?_ _ | refine zar ?_ | refine zai ?_ _)); refine zaB (cs := #[.int .i64 t20, .string t21, .int .i64 t22]) ?_ 2 _ rfl; (with_reducible repeat (first | refine zap ?_ _ | refine zar ?_ | refine zai ?_ _)); refine zaB (cs := #[.int .i64 t20, .string t21, .int .i64 0]) ?_ 2 _ rfl; (with_reducible repeat (first | refine zap ?_ _ | refine zar ?_ | refine zai ?_ _)); refine zaB (cs := #[.int .i64 t20, .string (⟨#[]⟩ : ByteArray), .int .i64 0]) ?_ 1 _ rfl; (with_reducible repeat (first | refine zap ?_ _ | refine zar ?_ | refine zai ?_ _)); refine zaB (cs := #[.int .i64 0, .string (⟨#[]⟩ : ByteArray), .int .i64 0]) ?_ 0 _ rfl; (with_reducible repeat (first | refine zap ?_ _ | refine zar ?_ | refine zai ?_ _)); exact BK23.out) k_ hk)); (case aO => exact (by (with_reducible repeat (first | apply Kd.zaQ | apply Kd.zaR | apply Kd.zbb)); exact Kd.za7 (Kd.zck (p := ⟨gb23, 2, none⟩) (Kd.zck (p := ⟨gb23, 2, none⟩) (Kd.zck (p := ⟨gb23, 1, none⟩) (Kd.zck (p := ⟨gb23, 0, none⟩) (Kd.za7 HO_6.out (fun k_ hk => (⟨hk, hk.2⟩ : _ ∧ k_ ≠ gb23))) (fun _ hk => hk.2) (.int .i64 t20)) (fun _ hk => hk.2) (.string t21)) (fun _ hk => hk.2) (.int .i64 t22)) (fun _ hk => hk.2) (.int .i64 (((x5_3.size : Int) + 1)))) (fun _ hk => hk.1.2))); (case aS => exact (zad lb)); (case aL => have := LMc34.out; omega); intro v25 w38 ho hb hg hat; rw [← Ny24.out] at ho; have n0_ := zaa.mk (zgi (g := gb23) (o := .cells #[.int .i64 t20, .string t21, .int .i64 (((x5_3.size : Int) + 1))] 33 (0, 0)) (by (with_reducible repeat (first | refine zap ?_ _ | refine zar ?_ | refine zai ?_ _)); refine zaB (cs := #[.int .i64 t20, .string t21, .int .i64 t22]) ?_ 2 _ rfl; (with_reducible repeat (first | refine zap ?_ _ | refine zar ?_ | refine zai ?_ _)); refine zaB (cs := #[.int .i64 t20, .string t21, .int .i64 0]) ?_ 2 _ rfl; (with_reducible repeat (first | refine zap ?_ _ | refine zar ?_ | refine zai ?_ _)); refine zaB (cs := #[.int .i64 t20, .string (⟨#[]⟩ : ByteArray), .int .i64 0]) ?_ 1 _ rfl; (with_reducible repeat (first | refine zap ?_ _ | refine zar ?_ | refine zai ?_ _)); refine zaB (cs := #[.int .i64 0, .string (⟨#[]⟩ : ByteArray), .int .i64 0]) ?_ 0 _ rfl; (with_reducible repeat (first | refine zap ?_ _ | refine zar ?_ | refine zai ?_ _)); exact BK23.out) hg (Kd.zdN HO_6.out (fun _ hk => hk.2))); have n1_ := zaa.mk (hb); have n2_ := zaa.mk (ho); clear BK23; clear HB; clear HO_6; have BK23 := n0_; have HB := n1_; have HO26 := n2_; clear n0_ n1_ n2_; clear ho hb hg hat)))
              go_roundg k3
              case measure => have := HK1.out; have := HJ2.out; have := HK3.out; omega
              case rel => exact ⟨((x5_3 ++ (⟨#[32]⟩ : ByteArray)) ++ t19), (y24), (wrap64 (x7_1 + 1)), rs, rs, H', ⟨by have := HK1.out; have := HJ2.out; have := HK3.out; omega⟩, ⟨by (with_reducible repeat (first | apply Kd.zaQ | apply Kd.zaR | apply Kd.zbb)); exact Kd.za7 HO26.out (fun _ hk => trivial)⟩, ⟨lb⟩⟩
             ·rw [if_neg c34] at H
              exact absurd H (by simp)
            ·rw [if_neg c33] at H
             exact absurd H (by simp)
           ·rw [if_neg c32] at H
            exact absurd H (by simp)
          ·rw [if_neg c30] at H
           exact absurd H (by simp)
         ·rw [if_neg c29] at H
          exact absurd H (by simp)
     ·replace c5 := Bool.eq_false_iff.mpr c5
      subst c5
      have H1 : (if x5_1.size + 1 ≤ 9223372036854775807 then ((zaF.f kj2 (x5_1 ++ (⟨#[10]⟩ : ByteArray))).bind fun bt27 => (if (x5_1.size : Int) ≥ 4096 then (if bt27.2.2 = 5 then ((zaJ.f kj2).bind fun t32 => (some t32)) else (some false)) else (if bt27.2.2 = 0 then (if bt27.2.1 = 0 then ((zan.f kj2 bt27.1).bind fun t33 => ((zat.f kj2 t33 x6_1).bind fun t36 => (zac.j3 kj2 x6_1 bt27.1 (!t36)))) else (zac.j3 kj2 x6_1 bt27.1 true)) else (zac.j3 kj2 x6_1 bt27.1 true)))) else (none)) = some r := by rw [if_neg (show ¬ (false = true) by decide)] at H; exact H
      clear H
      have H := H1
      clear H1
      by_cases c39 : x5_1.size + 1 ≤ 9223372036854775807
      ·rw [if_pos c39] at H
       have c39b0 := eq_true c39
       have c39b1 : decide (x5_1.size + 1 ≤ 9223372036854775807) = true := zDT c39
       try have c39b2 : (9223372036854775807 < x5_1.size + 1) = False := eq_false (Nat.not_lt.2 c39)
       replace H := zBE H
       obtain ⟨⟨t27, t28, t29⟩, A400, H⟩ := H
       replace H : (if (x5_1.size : Int) ≥ 4096 then (if t29 = 5 then ((zaJ.f kj2).bind fun t32 => (some t32)) else (some false)) else (if t29 = 0 then (if t28 = 0 then ((zan.f kj2 t27).bind fun t33 => ((zat.f kj2 t33 x6_1).bind fun t36 => (zac.j3 kj2 x6_1 t27 (!t36)))) else (zac.j3 kj2 x6_1 t27 true)) else (zac.j3 kj2 x6_1 t27 true))) = some r := H
       have A40 := zaa.mk A400
       clear A400
       by_cases c41 : (x5_1.size : Int) ≥ 4096
       ·rw [if_pos c41] at H
        have c41b0 : decide (4096 ≤ (x5_1.size : Int)) = true := zDT c41
        have c41b1 : decide (4096 ≤ x5_1.size) = true := decide_eq_true (by omega)
        clear c41
        by_cases c42 : t29 = 5
        ·rw [if_pos c42] at H
         have c42b0 : (t29 == 5) = true := beq_iff_eq.mpr c42
         have c42b1 : (t29 != 5) = false := bne_eq_false_iff_eq.mpr c42
         clear c42
         replace H := zBE H
         obtain ⟨t32, A430, H⟩ := H
         replace H : (some t32) = some r := H
         have A43 := zaa.mk A430
         clear A430
         obtain rfl := Option.some.inj H
         iterate 3 ((try go_quiet (fail)); try go_wp2_with (first | (go_at_call 8; (with_reducible refine (zaF.calls kj2 (x5_1 ++ (⟨#[10]⟩ : ByteArray)) t27 t28 t29 _ ?side1 A40.out).mono ?_); (case side1 => exact G.at hG.out (lc HB.out)); rintro e w44 ⟨v30, rfl, ho0, hb⟩; have n0_ := zaa.mk (Kd.zaS (rc HO_6.out) hb); have n1_ := zaa.mk (Kd.zaz ho0 (zad (lc HB.out))); have n2_ := zaa.mk (zab (lc HB.out) hb); clear HO_6; clear HB; have HO_6 := n0_; have HO31 := n1_; have HB := n2_; clear n0_ n1_ n2_; (try clear hb); (try clear hb2); (try clear hk); (try clear hi); (try clear ho0)) | (go_at_call 12; (with_reducible refine (zaJ.calls kj2  t32 _ ?side1 A43.out).mono ?_); (case side1 => exact G.at hG.out (lc HB.out)); rintro e w45 ⟨rfl, hb⟩; have n0_ := zaa.mk (Kd.zaS (rc HO_6.out) hb); have n1_ := zaa.mk (Kd.zaS (rc HO31.out) hb); have n2_ := zaa.mk (zab (lc HB.out) hb); clear HO_6; clear HO31; clear HB; have HO_6 := n0_; have HO31 := n1_; have HB := n2_; clear n0_ n1_ n2_; (try clear hb); (try clear hb2); (try clear hk); (try clear hi))))
         go_ret
         exact ⟨by first | rfl | (simp [zaf, zag] <;> rfl) | (simp [*, zaf, zag] <;> rfl), lb⟩
        ·rw [if_neg c42] at H
         have c42b0 : (t29 == 5) = false := beq_eq_false_iff_ne.mpr c42
         have c42b1 : (t29 != 5) = true := bne_iff_ne.mpr c42
         obtain rfl := Option.some.inj H
         iterate 3 ((try go_quiet (fail)); try go_wp2_with (first | (go_at_call 8; (with_reducible refine (zaF.calls kj2 (x5_1 ++ (⟨#[10]⟩ : ByteArray)) t27 t28 t29 _ ?side1 A40.out).mono ?_); (case side1 => exact G.at hG.out (lc HB.out)); rintro e w46 ⟨v30, rfl, ho0, hb⟩; have n0_ := zaa.mk (Kd.zaS (rc HO_6.out) hb); have n1_ := zaa.mk (Kd.zaz ho0 (zad (lc HB.out))); have n2_ := zaa.mk (zab (lc HB.out) hb); clear HO_6; clear HB; have HO_6 := n0_; have HO31 := n1_; have HB := n2_; clear n0_ n1_ n2_; (try clear hb); (try clear hb2); (try clear hk); (try clear hi); (try clear ho0))))
         go_ret
         exact ⟨by first | rfl | (simp [zaf, zag] <;> rfl) | (simp [*, zaf, zag] <;> rfl), lb⟩
       ·rw [if_neg c41] at H
        have c41b0 : decide (4096 ≤ (x5_1.size : Int)) = false := zDF c41
        have c41b1 : decide (4096 ≤ x5_1.size) = false := decide_eq_false (by omega)
        clear c41
        have HC47 := zaa.mk H
        clear H
        go_upto_region 17 with (first | (go_at_call 8; (with_reducible refine (zaF.calls kj2 (x5_1 ++ (⟨#[10]⟩ : ByteArray)) t27 t28 t29 _ ?side1 A40.out).mono ?_); (case side1 => exact G.at hG.out (lc HB.out)); rintro e w48 ⟨v30, rfl, ho0, hb⟩; have n0_ := zaa.mk (Kd.zaS (rc HO_6.out) hb); have n1_ := zaa.mk (Kd.zaz ho0 (zad (lc HB.out))); have n2_ := zaa.mk (zab (lc HB.out) hb); clear HO_6; clear HB; have HO_6 := n0_; have HO31 := n1_; have HB := n2_; clear n0_ n1_ n2_; (try clear hb); (try clear hb2); (try clear hk); (try clear hi); (try clear ho0)))
        repeat (go_quiet (first | (go_at_call 8; (with_reducible refine (zaF.calls kj2 (x5_1 ++ (⟨#[10]⟩ : ByteArray)) t27 t28 t29 _ ?side1 A40.out).mono ?_); (case side1 => exact G.at hG.out (lc HB.out)); rintro e w48 ⟨v30, rfl, ho0, hb⟩; have n0_ := zaa.mk (Kd.zaS (rc HO_6.out) hb); have n1_ := zaa.mk (Kd.zaz ho0 (zad (lc HB.out))); have n2_ := zaa.mk (zab (lc HB.out) hb); clear HO_6; clear HB; have HO_6 := n0_; have HO31 := n1_; have HB := n2_; clear n0_ n1_ n2_; (try clear hb); (try clear hb2); (try clear hk); (try clear hi); (try clear ho0))); go_upto_region 17 with (first | (go_at_call 8; (with_reducible refine (zaF.calls kj2 (x5_1 ++ (⟨#[10]⟩ : ByteArray)) t27 t28 t29 _ ?side1 A40.out).mono ?_); (case side1 => exact G.at hG.out (lc HB.out)); rintro e w48 ⟨v30, rfl, ho0, hb⟩; have n0_ := zaa.mk (Kd.zaS (rc HO_6.out) hb); have n1_ := zaa.mk (Kd.zaz ho0 (zad (lc HB.out))); have n2_ := zaa.mk (zab (lc HB.out) hb); clear HO_6; clear HB; have HO_6 := n0_; have HO31 := n1_; have HB := n2_; clear n0_ n1_ n2_; (try clear hb); (try clear hb2); (try clear hk); (try clear hi); (try clear ho0))))
        (try simp only [Act.put, List.setIfInBounds_toArray, List.set_cons_zero, List.set_cons_succ])
        go_cut [94] (fun v94 wc => ∃ (kq : Nat) (x94_46 : Bool), v94 = .bool x94_46 ∧ zaa (zac.j3 kq x6_1 t27 x94_46 = some r) ∧ zaa (kq ≤ kj2) ∧ zaa (Kd.R k33 33 wc w.heap.size (fun _ => True) u6 x6_1) ∧ zaa (Kd.R k32 32 wc w.heap.size (fun _ => True) v30 t27) ∧ zaa (Below w.heap.size w wc))
        case first =>
         have H := HC47.out
         clear HC47
         by_cases c49 : t29 = 0
         ·rw [if_pos c49] at H
          have c49b0 : (t29 == 0) = true := beq_iff_eq.mpr c49
          have c49b1 : (t29 != 0) = false := bne_eq_false_iff_eq.mpr c49
          clear c49
          (first | rw [c49b0] | (simp only [zbs, zbR]; rw [c49b0]) | skip)
          by_cases c50 : t28 = 0
          ·rw [if_pos c50] at H
           have c50b0 : (t28 == 0) = true := beq_iff_eq.mpr c50
           have c50b1 : (t28 != 0) = false := bne_eq_false_iff_eq.mpr c50
           clear c50
           replace H := zBE H
           obtain ⟨t33, A510, H⟩ := H
           replace H : ((zat.f kj2 t33 x6_1).bind fun t36 => (zac.j3 kj2 x6_1 t27 (!t36))) = some r := H
           have A51 := zaa.mk A510
           clear A510
           replace H := zBE H
           obtain ⟨t36, A520, H⟩ := H
           replace H : (zac.j3 kj2 x6_1 t27 (!t36)) = some r := H
           have A52 := zaa.mk A520
           clear A520
           have H' := zaa.mk H
           clear H
           obtain ⟨Ao53, co53, eo53⟩ := Kd.zaC HO31.out
           subst eo53
           iterate 3 ((try go_quiet (fail)); try go_wp2_with (first | (go_at_call 11; (with_reducible refine (zan.calls kj2 _ _ t27 t33 _ ?side1 ?side2 A51.out).mono ?_); (case side1 => exact cc (Kd.zax HO31.out).2.2); (case side2 => exact (Kd.zax HO31.out).2.1); rintro e w54 ⟨v34, rfl, ho0, hb⟩; have n0_ := zaa.mk (Kd.zf9 (rc HO_6.out) (Kd.zbk ho0) hb); have n1_ := zaa.mk (Kd.zaS (rc HO31.out) hb); have n2_ := zaa.mk (Kd.zaz (Kd.zbq ho0 (Kd.zcH (rc HO_6.out))) (zad (lc HB.out))); have n3_ := zaa.mk (zab (lc HB.out) hb); clear HO_6; clear HO31; clear HB; have HO_6 := n0_; have HO31 := n1_; have HO35 := n2_; have HB := n3_; clear n0_ n1_ n2_ n3_; (try clear hb); (try clear hb2); (try clear hk); (try clear hi); (try clear ho0); obtain ⟨Ao55, co55, eo55⟩ := Kd.zaC HO35.out; subst eo55; obtain ⟨Ao56, co56, eo56⟩ := Kd.zaC HO_6.out; subst eo56) | (go_at_call 10; (with_reducible refine (zat.calls kj2 _ _ t33 _ _ x6_1 t36 _ ?side1 ?side2 ?side3 ?side4 A52.out).mono ?_); (case side1 => exact cc (Kd.zax HO35.out).2.2); (case side2 => exact (Kd.zax HO35.out).2.1); (case side3 => exact cc (Kd.zax HO_6.out).2.2); (case side4 => exact (Kd.zax HO_6.out).2.1); rintro e w' ⟨rfl, ⟨nd, rfl⟩⟩; (try first | exact ⟨rfl, _, World.drewN_drewN _ _ _⟩ | exact ⟨rfl, _, Eq.trans (World.drewN_drewN _ _ _) (congrArg (World.drewN _) (Nat.add_assoc _ _ _))⟩))))
           go_meet
           case rel => exact ⟨_, (!t36), rs, H', ⟨by have := HK1.out; have := HJ2.out; first | omega | exact Nat.le_refl _⟩, ⟨by (with_reducible repeat (first | apply Kd.zaQ | apply Kd.zaR | apply Kd.zbb)); exact Kd.za7 HO_6.out (fun _ hk => trivial)⟩, ⟨by (with_reducible repeat (first | apply Kd.zaQ | apply Kd.zaR | apply Kd.zbb)); exact HO31.out⟩, ⟨lb⟩⟩
          ·rw [if_neg c50] at H
           have c50b0 : (t28 == 0) = false := beq_eq_false_iff_ne.mpr c50
           have c50b1 : (t28 != 0) = true := bne_iff_ne.mpr c50
           have H' := zaa.mk H
           clear H
           go_wp2
           repeat (go_quiet (fail); try go_wp2)
           go_meet
           case rel => exact ⟨_, (true), rs, H', ⟨by have := HK1.out; have := HJ2.out; first | omega | exact Nat.le_refl _⟩, ⟨by (with_reducible repeat (first | apply Kd.zaQ | apply Kd.zaR | apply Kd.zbb)); exact HO_6.out⟩, ⟨by (with_reducible repeat (first | apply Kd.zaQ | apply Kd.zaR | apply Kd.zbb)); exact HO31.out⟩, ⟨lb⟩⟩
         ·rw [if_neg c49] at H
          have c49b0 : (t29 == 0) = false := beq_eq_false_iff_ne.mpr c49
          have c49b1 : (t29 != 0) = true := bne_iff_ne.mpr c49
          (first | rw [c49b0] | (simp only [zbs, zbR]; rw [c49b0]) | skip)
          have H' := zaa.mk H
          clear H
          go_wp2
          repeat (go_quiet (fail); try go_wp2)
          go_meet
          case rel => exact ⟨_, (true), rs, H', ⟨by have := HK1.out; have := HJ2.out; first | omega | exact Nat.le_refl _⟩, ⟨by (with_reducible repeat (first | apply Kd.zaQ | apply Kd.zaR | apply Kd.zbb)); exact HO_6.out⟩, ⟨by (with_reducible repeat (first | apply Kd.zaQ | apply Kd.zaR | apply Kd.zbb)); exact HO31.out⟩, ⟨lb⟩⟩
        case rest =>
         clear HC47
         try clear c1
         try clear p1
         try clear q1
         try clear hx1
         try clear hcv1
         try clear c2
         try clear p2
         try clear c3
         try clear c4
         try clear c4b0
         try clear p4
         try clear q4
         try clear hx4
         try clear c5
         try clear p5
         try clear q5
         try clear hx5
         try clear c6
         try clear c6b0
         try clear p6
         try clear c7
         try clear c7b0
         try clear c8
         try clear c8b0
         try clear p9
         try clear q9
         try clear hx9
         try clear c10
         try clear c10b0
         try clear c11
         try clear c11b0
         try clear c12
         try clear c12b0
         try clear c12b1
         try clear c12b2
         try clear p18
         try clear q18
         try clear hx18
         try clear hcv18
         try clear c19
         try clear c19b0
         try clear c20
         try clear c20b0
         try clear c22
         try clear c22b0
         try clear c22b1
         try clear c22b2
         try clear c23
         try clear c23b0
         try clear c23b1
         try clear c23b2
         try clear c24
         try clear c29
         try clear c29b0
         try clear c30
         try clear c30b0
         try clear c32
         try clear c32b0
         try clear c32b1
         try clear c32b2
         try clear c33
         try clear c33b0
         try clear c33b1
         try clear c33b2
         try clear c34
         try clear c39
         try clear c39b0
         try clear c39b1
         try clear c39b2
         try clear c41
         try clear c41b0
         try clear c41b1
         try clear c42
         try clear c42b0
         try clear c42b1
         try clear c49
         try clear c49b0
         try clear c49b1
         try clear c50
         try clear c50b0
         try clear c50b1
         try clear hcz27_0
         try clear hcz27_1
         try clear hcz27_2
         try clear hcz37_0
         try clear hcz37_1
         try clear hcz37_2
         try clear hfz27_0
         try clear hfz27_1
         try clear hfz27_2
         try clear hfz37_0
         try clear hfz37_1
         try clear hfz37_2
         try clear hx18_0
         try clear hx18_1
         try clear hx18_2
         try clear hx4_0
         try clear hx5_0
         try clear hx9_0
         try clear hx9_1
         try clear hx9_2
         try clear p18
         try clear p2
         try clear p4
         try clear p5
         try clear p9
         try clear q18
         try clear q4
         try clear q5
         try clear q9
         obtain ⟨kq, x94_46, rfl, HA, HJ46, HO_6, HO_11, HB⟩ := hcut
         cases kq with
         | zero => exact absurd HA.out (by simp [zac.j3])
         | succ kj46 =>
          have H := HA.out
          clear HA
          simp only [zac.j3] at H
          by_cases c57 : x94_46 = true
          ·subst c57
           have H1 : (some false) = some r := by rw [if_pos rfl] at H; exact H
           clear H
           have H := H1
           clear H1
           obtain rfl := Option.some.inj H
           go_wp2
           repeat (go_quiet (fail); try go_wp2)
           go_ret
           exact ⟨by first | rfl | (simp [zaf, zag] <;> rfl) | (simp [*, zaf, zag] <;> rfl), lb⟩
          ·replace c57 := Bool.eq_false_iff.mpr c57
           subst c57
           have H1 : (zac.l2 kj46 x6_1 t27 0) = some r := by rw [if_neg (show ¬ (false = true) by decide)] at H; exact H
           clear H
           have H := H1
           clear H1
           have H' := zaa.mk H
           clear H
           go_wp2
           repeat (go_quiet (fail); try go_wp2)
           go_loopg [14] kj46 (fun kq v14 w' => ∃ (x14_4 : Int), v14 = .int .i64 x14_4 ∧ zaa (zac.l2 kq x6_1 t27 x14_4 = some r) ∧ zaa (kq ≤ kj46) ∧ zaa (Kd.R k33 33 w' w.heap.size (fun _ => True) u6 x6_1) ∧ zaa (Kd.R k32 32 w' w.heap.size (fun _ => True) v30 t27) ∧ zaa (Below w.heap.size w w'))
           case atStart => exact ⟨(0), rs, H', ⟨Nat.le_refl _⟩, ⟨by (with_reducible repeat (first | apply Kd.zaQ | apply Kd.zaR | apply Kd.zbb)); exact HO_6.out⟩, ⟨by (with_reducible repeat (first | apply Kd.zaQ | apply Kd.zaR | apply Kd.zbb)); exact HO_11.out⟩, ⟨lb⟩⟩
           case round =>
            clear H'
            try clear c1
            try clear p1
            try clear q1
            try clear hx1
            try clear hcv1
            try clear c2
            try clear p2
            try clear c3
            try clear c4
            try clear c4b0
            try clear p4
            try clear q4
            try clear hx4
            try clear c5
            try clear p5
            try clear q5
            try clear hx5
            try clear c6
            try clear c6b0
            try clear p6
            try clear c7
            try clear c7b0
            try clear c8
            try clear c8b0
            try clear p9
            try clear q9
            try clear hx9
            try clear c10
            try clear c10b0
            try clear c11
            try clear c11b0
            try clear c12
            try clear c12b0
            try clear c12b1
            try clear c12b2
            try clear p18
            try clear q18
            try clear hx18
            try clear hcv18
            try clear c19
            try clear c19b0
            try clear c20
            try clear c20b0
            try clear c22
            try clear c22b0
            try clear c22b1
            try clear c22b2
            try clear c23
            try clear c23b0
            try clear c23b1
            try clear c23b2
            try clear c24
            try clear c29
            try clear c29b0
            try clear c30
            try clear c30b0
            try clear c32
            try clear c32b0
            try clear c32b1
            try clear c32b2
            try clear c33
            try clear c33b0
            try clear c33b1
            try clear c33b2
            try clear c34
            try clear c39
            try clear c39b0
            try clear c39b1
            try clear c39b2
            try clear c41
            try clear c41b0
            try clear c41b1
            try clear c42
            try clear c42b0
            try clear c42b1
            try clear c49
            try clear c49b0
            try clear c49b1
            try clear c50
            try clear c50b0
            try clear c50b1
            try clear c57
            try clear hcz27_0
            try clear hcz27_1
            try clear hcz27_2
            try clear hcz37_0
            try clear hcz37_1
            try clear hcz37_2
            try clear hfz27_0
            try clear hfz27_1
            try clear hfz27_2
            try clear hfz37_0
            try clear hfz37_1
            try clear hfz37_2
            try clear hx18_0
            try clear hx18_1
            try clear hx18_2
            try clear hx4_0
            try clear hx5_0
            try clear hx9_0
            try clear hx9_1
            try clear hx9_2
            try clear p1
            try clear p18
            try clear p2
            try clear p4
            try clear p5
            try clear p6
            try clear p9
            try clear q1
            try clear q18
            try clear q4
            try clear q5
            try clear q9
            obtain ⟨x14_4, rfl, HA, HK4, HO_6, HO_11, HB⟩ := hrel
            cases gk with
            | zero => exact absurd HA.out (by simp [zac.l2])
            | succ k4 =>
             have H := HA.out
             clear HA
             simp only [zac.l2] at H
             by_cases c58 : x14_4 < (x6_1.length : Int)
             ·rw [if_pos c58] at H
              have c58b0 : decide (x14_4 < (x6_1.length : Int)) = true := zDT c58
              clear c58
              by_cases c59 : 0 ≤ x14_4
              ·rw [if_pos c59] at H
               have c59b0 : decide (0 ≤ x14_4) = true := zDT c59
               clear c59
               by_cases c60 : x14_4 < (t27.length : Int)
               ·rw [if_pos c60] at H
                have c60b0 : decide (x14_4 < (t27.length : Int)) = true := zDT c60
                clear c60
                by_cases c61 : ((zbB t27 x14_4).f2) = ((zbV x6_1 x14_4).f2)
                ·rw [if_pos c61] at H
                 have c61b0 : (((zbB t27 x14_4).f2) == ((zbV x6_1 x14_4).f2)) = true := beq_iff_eq.mpr c61
                 have c61b1 : (((zbB t27 x14_4).f2) != ((zbV x6_1 x14_4).f2)) = false := bne_eq_false_iff_eq.mpr c61
                 clear c61
                 have H' := zaa.mk H
                 clear H
                 obtain ⟨Ao62, co62, eo62⟩ := Kd.zaC HO_6.out
                 subst eo62
                 obtain ⟨Ao63, co63, eo63⟩ := Kd.zaC HO_11.out
                 subst eo63
                 have p37 : 0 ≤ (x14_4 : Int) := zDO (by first | (with_reducible assumption) | assumption)
                 have q37 : x14_4 < (t27.length : Int) := zDO (by first | (with_reducible assumption) | assumption)
                 obtain ⟨ad37, e37, hx37_0, hx37_1, hx37_2⟩ := zgG (Kd.zax HO_11.out).2.2 x14_4 p37 q37
                 cases e37
                 replace p37 := eq_true p37
                 replace q37 := eq_true q37
                 have p38 : 0 ≤ (x14_4 : Int) := zDO (by first | (with_reducible assumption) | assumption)
                 have q38 : x14_4 < (x6_1.length : Int) := zDO (by first | (with_reducible assumption) | assumption)
                 obtain ⟨ad38, e38, hx38_0, hx38_1, hx38_2⟩ := zea (Kd.zax HO_6.out).2.2 x14_4 p38 q38
                 cases e38
                 replace p38 := eq_true p38
                 replace q38 := eq_true q38
                 go_wp2
                 repeat (go_quiet (fail); try go_wp2)
                 go_roundg k4
                 case measure => have := HK1.out; have := HJ2.out; have := HJ46.out; have := HK4.out; omega
                 case rel => exact ⟨(wrap64 (x14_4 + 1)), rs, H', ⟨by have := HK1.out; have := HJ2.out; have := HJ46.out; have := HK4.out; omega⟩, ⟨by (with_reducible repeat (first | apply Kd.zaQ | apply Kd.zaR | apply Kd.zbb)); exact HO_6.out⟩, ⟨by (with_reducible repeat (first | apply Kd.zaQ | apply Kd.zaR | apply Kd.zbb)); exact HO_11.out⟩, ⟨lb⟩⟩
                ·rw [if_neg c61] at H
                 have c61b0 : (((zbB t27 x14_4).f2) == ((zbV x6_1 x14_4).f2)) = false := beq_eq_false_iff_ne.mpr c61
                 have c61b1 : (((zbB t27 x14_4).f2) != ((zbV x6_1 x14_4).f2)) = true := bne_iff_ne.mpr c61
                 obtain rfl := Option.some.inj H
                 obtain ⟨Ao64, co64, eo64⟩ := Kd.zaC HO_6.out
                 subst eo64
                 obtain ⟨Ao65, co65, eo65⟩ := Kd.zaC HO_11.out
                 subst eo65
                 have p37 : 0 ≤ (x14_4 : Int) := zDO (by first | (with_reducible assumption) | assumption)
                 have q37 : x14_4 < (t27.length : Int) := zDO (by first | (with_reducible assumption) | assumption)
                 obtain ⟨ad37, e37, hx37_0, hx37_1, hx37_2⟩ := zgG (Kd.zax HO_11.out).2.2 x14_4 p37 q37
                 cases e37
                 replace p37 := eq_true p37
                 replace q37 := eq_true q37
                 have p38 : 0 ≤ (x14_4 : Int) := zDO (by first | (with_reducible assumption) | assumption)
                 have q38 : x14_4 < (x6_1.length : Int) := zDO (by first | (with_reducible assumption) | assumption)
                 obtain ⟨ad38, e38, hx38_0, hx38_1, hx38_2⟩ := zea (Kd.zax HO_6.out).2.2 x14_4 p38 q38
                 cases e38
                 replace p38 := eq_true p38
                 replace q38 := eq_true q38
                 go_wp2
                 repeat (go_quiet (fail); try go_wp2)
                 go_ret
                 exact ⟨by first | rfl | (simp [zaf, zag] <;> rfl) | (simp [*, zaf, zag] <;> rfl), lb⟩
               ·rw [if_neg c60] at H
                exact absurd H (by simp)
              ·rw [if_neg c59] at H
               exact absurd H (by simp)
             ·rw [if_neg c58] at H
              have c58b0 : decide (x14_4 < (x6_1.length : Int)) = false := zDF c58
              clear c58
              replace H := zBE H
              obtain ⟨t39, A660, H⟩ := H
              replace H : (some t39) = some r := H
              have A66 := zaa.mk A660
              clear A660
              obtain rfl := Option.some.inj H
              obtain ⟨Ao67, co67, eo67⟩ := Kd.zaC HO_6.out
              subst eo67
              iterate 3 ((try go_quiet (fail)); try go_wp2_with (first | (go_at_call 12; (with_reducible refine (zaJ.calls k4  t39 _ ?side1 A66.out).mono ?_); (case side1 => exact G.at hG.out (lc HB.out)); rintro e w68 ⟨rfl, hb⟩; have n0_ := zaa.mk (Kd.zaS (rc HO_6.out) hb); have n1_ := zaa.mk (Kd.zaS (rc HO_11.out) hb); have n2_ := zaa.mk (zab (lc HB.out) hb); clear HO_6; clear HO_11; clear HB; have HO_6 := n0_; have HO_11 := n1_; have HB := n2_; clear n0_ n1_ n2_; (try clear hb); (try clear hb2); (try clear hk); (try clear hi))))
              go_ret
              exact ⟨by first | rfl | (simp [zaf, zag] <;> rfl) | (simp [*, zaf, zag] <;> rfl), lb⟩
      ·rw [if_neg c39] at H
       exact absurd H (by simp)
def zac.Pure : Prop := ∀ (l0 : List (S51)) (l1 : List Int), (∀ n ∈ l1, 0 ≤ n ∧ n < 256) → ∃ k, zac.f k l0 l1 = some true
theorem zac.walk (P : zac.Pure) (A0 : Option Addr) (c0 : Nat) (l0 : List (S51)) (A1 : Option Addr) (c1 : Nat) (l1 : List Int) (w : World) (hG : zaa (G w)) (hr0 : Kd.C k51 w A0 l0.length l0) (hc0 : l0.length ≤ c0 ∧ l0.length ≤ maxLen) (hr1 : Kd.C (Kd.int .u8) w A1 l1.length l1) (hc1 : l1.length ≤ c1 ∧ ∀ n ∈ l1, 0 ≤ n ∧ n < 256) :
  Calls Tryz.prog 7 #[.slice A0 l0.length c0, .slice A1 l1.length c1] w fun e w' => e = .returned (.bool true) ∧ Below w.heap.size w w' := by
 obtain ⟨k, h⟩ := P l0 l1 hc1.2
 refine (zac.calls k A0 c0 l0 A1 c1 l1 true w hr0 hc0.1 hr1 hc1.1 hG h).mono ?_
 rintro e w' ⟨rfl, hd⟩
 exact ⟨rfl, hd⟩
end Go.Proofs.YtioofhilohmfbaaGreatDoor.P
end
section
open Go Go.ChangeShapes Go.WideShapes Go.ChangeAt Go.RowKit
namespace Go.Proofs.YtioofhilohmfbaaGreatDoor.lexBack
open Go.ChangeMaps (open_string shut_string)
theorem own : ownKnob Tryz.prog.godebug = none := by kernel_rfl
theorem laidOut : laidOutB Tryz.prog = true := by kernel_rfl
open Go.Deep in
theorem zf6 {H : Type} {enc : TypeId × Value → H} {P : Program} {w : World} {base : Nat} {spare : Nat → Bool} {held : Bool} {t e : TypeId} {f0 f1 f2 : Field} {fuel : Nat} {cs : List Value} {x : DataW H × List MemPlace} (ht : P.underlying t = some (.slice e)) (he : P.underlying e = some (.struct #[f0, f1, f2]))
  (ce : P.cellsOf e = 3) (o0 : f0.offset = 0) (o1 : f1.offset = 1) (o2 : f2.offset = 2) (c0 : P.cellsOf f0.type = 1) (c1 : P.cellsOf f1.type = 1) (c2 : P.cellsOf f2.type = 1)
  (h : DataW.trod enc P w base spare held fuel t cs = some x) :
  cs = [.slice none 0 0] ∨
  ∃ (a : Addr) (len cap m n : Nat), cs = [.slice (some a) len cap] ∧ len ≤ cap ∧ cap ≤ maxLen ∧ m = (if spare a.block then cap else len) ∧
   ∀ i, i < m → ∃ (V0 V1 V2 : Value) (D0 D1 D2 : DataW H × List MemPlace), w.cell? (a.add (i * 3)) = some V0 ∧ w.cell? (a.add (i * 3 + 1)) = some V1 ∧ w.cell? (a.add (i * 3 + 2)) = some V2 ∧
    DataW.trod enc P w base spare held n f0.type [V0] = some D0 ∧ DataW.trod enc P w base spare held n f1.type [V1] = some D1 ∧ DataW.trod enc P w base spare held n f2.type [V2] = some D2 := by
 rcases open_slice ht h with ⟨h0, _⟩ | ⟨a, len, cap, m, n, D, Pl, rfl, hb, hl, hm, hmm, rfl, hx⟩
 ·exact .inl h0
 refine .inr ⟨a, len, cap, m, n - 1, rfl, hl, hm, hmm, fun i hi => ?_⟩
 obtain ⟨cs', h1, h2⟩ := hx i hi
 rw [ce] at h1
 obtain ⟨_, hlen, hcell⟩ := World.cells?_some h1
 obtain ⟨xs, k, hk, hxy, _, hxl, hf⟩ := DataW.trod_struct he h2
 have hk' : k = n - 1 := by omega
 subst hk'
 match xs, hxl, cs', hlen with
 | [y0, y1, y2], _, [v0, v1, v2], _ =>
  have g0 := hf 0 f0 rfl
  have g1 := hf 1 f1 rfl
  have g2 := hf 2 f2 rfl
  simp [o0, o1, o2, c0, c1, c2] at g0 g1 g2
  have e0 := hcell 0 (by omega)
  have e1 := hcell 1 (by omega)
  have e2 := hcell 2 (by omega)
  rw [add_add] at e0 e1 e2
  exact ⟨v0, v1, v2, y0, y1, y2, by simpa using e0, by simpa using e1, by simpa using e2, g0, g1, g2⟩
theorem lifted (PU : P.zac.Pure) (os : Os) (started : os.Started) (H : Type) (enc : TypeId × Value → H) :
  ReturnsInHanded {} Tryz.checked os 7 .any (fun w args => (Rows.lexBackSpec.pre enc Tryz.prog Tryz.f7 Rows.lexBackRow.domain false w args ∧ laidMetH Tryz.prog Rows.lexBackRow.laid w) ∧ sizedMet enc Tryz.prog Tryz.f7 (OpenSpec.ofChange Rows.lexBackSpec) false w args)
   (Rows.lexBackSpec.post enc Tryz.prog Tryz.f7 false true false false) := by
 refine returnsInHanded_of_change_and (C := Tryz.checked) (X := fun w _ => laidMetH Tryz.prog zek w) (fun _ _ _ hh h => h.of_heap hh) own started (by kernel_rfl) Tryz.func7
  (ChangeSpec.witness_shaped (enc := enc) (C := Tryz.checked) (os := os) (X := fun w _ => laidMetH Tryz.prog zek w) false (zkp os) #[.slice none 0 0, .slice none 0 0] 8 (zl0 _)
   (World.shaped_of_ZipB (by kernel_rfl) (by kernel_rfl)) (by kernel_rfl) (by kernel_rfl) (by kernel_rfl) (zk6 os _)) ?_
 intro W base args ds gs before hval0 hW hcnd hsz0 hL _
 have hsz : (DataW.weightsEach Tryz.prog (Tryz.f7.params.toList ++ Rows.lexBackSpec.plain.varTypes Tryz.prog) (ds ++ gs)).all (· ≤ reachBytes) = true := hsz0
 have hval : ∀ (j : Nat) t v, Tryz.f7.params[j]? = some t → args[j]? = some v → Value.okWide Tryz.prog W .any base t v := hval0
 have hW' := hW
 obtain ⟨p, q, hA0, hV, rfl, hfz, hnd⟩ := hW
 have hA : DataW.TrodAll enc Tryz.prog W 0 (fun _ => true) true Tryz.f7.params.toList args.toList ds p := hA0
 rw [Tryz.params7] at hA hval hsz
 obtain ⟨v0, vs0, d0, ds0, p0, q0, hargs, rfl, rfl, h0, r0⟩ := trodAll_cons hA
 obtain ⟨v1, vs1, d1, ds1, p1, q1, rfl, rfl, rfl, h1, r1⟩ := trodAll_cons r0
 obtain ⟨rfl, rfl, rfl⟩ := trodAll_nil r1
 obtain rfl : args = #[v0, v1] := by cases args; simp_all
 obtain ⟨rfl, rfl⟩ := trodVars_none hV
 obtain ⟨a0, len0, cap0, rfl⟩ := okWide_slice Tryz.underlying46 (hval 0 46 v0 rfl rfl)
 have k0 := h0
 have lt0 : ∀ x ∈ p0, x.block < W.heap.size := by obtain ⟨m, hm⟩ := k0; exact DataW.trod_lt m _ _ _ hm
 obtain ⟨z0, y0, x0, w0⟩ : ∃ ss : List Go.Proofs.YtioofhilohmfbaaGreatDoor.P.S51, ss.length = len0 ∧ (ss.length ≤ cap0 ∧ ss.length ≤ maxLen) ∧ Go.Proofs.YtioofhilohmfbaaGreatDoorW.PrintWords.Kd.C Go.Proofs.YtioofhilohmfbaaGreatDoor.P.k51 W a0 ss.length ss := by
  obtain ⟨fuel, hf⟩ := h0
  rcases zf6 Tryz.underlying46 Tryz.underlying51 (by kernel_rfl) rfl rfl rfl (by kernel_rfl) (by kernel_rfl) (by kernel_rfl) hf with hcs | ⟨x, l, c, m, n, hcs, hl, hm, hmm, hcell⟩
  ·simp [Value.cells] at hcs
   obtain ⟨rfl, rfl, rfl⟩ := hcs
   exact ⟨[], rfl, ⟨Nat.le_refl _, Nat.zero_le _⟩, Go.Proofs.YtioofhilohmfbaaGreatDoorW.PrintWords.Kd.zoK _ _⟩
  ·simp [Value.cells] at hcs
   obtain ⟨rfl, rfl, rfl⟩ := hcs
   have hz2 : len0 ≤ m := by rw [hmm]; split <;> omega
   have each : ∀ i, i < len0 → ∃ q : Int × ByteArray × Int, W.cell? (x.add (i * 3)) = some (.int .i64 q.1) ∧ W.cell? (x.add (i * 3 + 1)) = some (.string q.2.1) ∧ W.cell? (x.add (i * 3 + 2)) = some (.int .i64 q.2.2) := fun i hi => by
    obtain ⟨V0, V1, V2, D0, D1, D2, c0, c1, c2, e0, e1, e2⟩ := hcell i (by omega)
    obtain ⟨s0, g0, _⟩ := DataW.trod_int Tryz.underlying3 e0
    obtain ⟨s1, g1, _⟩ := DataW.trod_string Tryz.underlying9 e1
    obtain ⟨s2, g2, _⟩ := DataW.trod_int Tryz.underlying3 e2
    exact ⟨(s0, s1, s2), c0.trans (congrArg some (List.cons.inj g0).1), c1.trans (congrArg some (List.cons.inj g1).1), c2.trans (congrArg some (List.cons.inj g2).1)⟩
   obtain ⟨q, hq⟩ := Go.Deep.choose_lt each
   have hlt : ((List.range len0).map fun i => (⟨(q i).1, (q i).2.1, (q i).2.2⟩ : Go.Proofs.YtioofhilohmfbaaGreatDoor.P.S51)).length = len0 := by rw [List.length_map, List.length_range]
   refine ⟨(List.range len0).map fun i => ⟨(q i).1, (q i).2.1, (q i).2.2⟩, hlt, ⟨by omega, by omega⟩, rfl, (by rw [hlt]; exact Nat.le_trans hl hm), fun _ => ⟨_, rfl, fun j p hj => ?_⟩⟩
   have hjl := (List.getElem?_eq_some_iff.1 hj).1
   rw [hlt] at hjl
   rw [List.getElem?_map, List.getElem?_range hjl] at hj
   injection hj with hj
   subst hj
   refine ⟨[.int .i64 (q j).1, .string (q j).2.1, .int .i64 (q j).2.2], rfl, Go.Proofs.YtioofhilohmfbaaGreatDoor.P.zqe _ _, fun i u hu => ?_⟩
   have hi : i < 3 := (List.getElem?_eq_some_iff.1 hu).1
   rcases (show i = 0 ∨ i = 1 ∨ i = 2 by omega) with rfl | rfl | rfl
   ·have e : Value.int .i64 (q j).1 = u := Option.some.inj hu
    exact (hq j hjl).1.trans (congrArg some e)
   ·have e : Value.string (q j).2.1 = u := Option.some.inj hu
    exact (hq j hjl).2.1.trans (congrArg some e)
   ·have e : Value.int .i64 (q j).2.2 = u := Option.some.inj hu
    exact (hq j hjl).2.2.trans (congrArg some e)
 subst y0
 obtain ⟨a1, len1, cap1, rfl⟩ := okWide_slice Tryz.underlying47 (hval 1 47 v1 rfl rfl)
 have k1 := h1
 have lt1 : ∀ x ∈ p1, x.block < W.heap.size := by obtain ⟨m, hm⟩ := k1; exact DataW.trod_lt m _ _ _ hm
 obtain ⟨z1, y1, x1, w1⟩ : ∃ zs : List Int, zs.length = len1 ∧ (zs.length ≤ cap1 ∧ ∀ n ∈ zs, 0 ≤ n ∧ n < 256) ∧ Go.Proofs.YtioofhilohmfbaaGreatDoorW.PrintWords.Kd.C (Go.Proofs.YtioofhilohmfbaaGreatDoorW.PrintWords.Kd.int .u8) W a1 zs.length zs := by
  obtain ⟨fuel, hf⟩ := h1
  rcases open_ints Tryz.underlying47 Tryz.underlying5 (by kernel_rfl) hf with ⟨hcs, _⟩ | ⟨x, l, c, zs, hcs, _, hl, hm, hz, _, hcell, hwz⟩
  ·simp [Value.cells] at hcs
   obtain ⟨rfl, rfl, rfl⟩ := hcs
   exact ⟨[], rfl, ⟨Nat.le_refl _, fun _ h => by cases h⟩, Go.Proofs.YtioofhilohmfbaaGreatDoorW.PrintWords.Kd.zoK _ _⟩
  ·simp [Value.cells] at hcs
   obtain ⟨rfl, rfl, rfl⟩ := hcs
   have hz2 : len1 ≤ zs.length := by rw [hz]; split <;> omega
   have hlt : (zs.take len1).length = len1 := by rw [List.length_take]; omega
   have hwz2 : ∀ n ∈ zs.take len1, 0 ≤ n ∧ n < 256 := fun n hn => by
    have hw3 : (Lit.int .u8 n).wf = true := hwz n (List.mem_of_mem_take hn)
    simp only [Lit.wf, Bool.and_eq_true, decide_eq_true_eq] at hw3
    have e1 : IntKind.u8.min = 0 := rfl
    have e2 : IntKind.u8.max = 255 := rfl
    omega
   refine ⟨zs.take len1, hlt, ⟨by omega, hwz2⟩, rfl, (by rw [hlt]; exact Nat.le_trans hl hm), fun _ => ⟨_, rfl, fun j p hj => ?_⟩⟩
   have hjl := (List.getElem?_eq_some_iff.1 hj).1
   rw [hlt] at hjl
   refine ⟨[.int .u8 p], rfl, rfl, fun i u hu => ?_⟩
   have hi : i = 0 := by have := (List.getElem?_eq_some_iff.1 hu).1; simp at this; omega
   subst hi
   simp at hu
   subst hu
   have hp : zs.getD j 0 = p := by
    rw [List.getElem?_take] at hj
    rw [if_pos hjl] at hj
    rw [List.getD_eq_getElem?_getD, hj]; rfl
   have := hcell j (by omega)
   rw [hp] at this
   show W.cell? (x.add (j * 1 + 0)) = _
   rw [Nat.mul_one, Nat.add_zero]
   exact this
 subst y1
 clear hA0 hval0 hsz0 hsz
 refine (P.zac.walk PU a0 cap0 z0 a1 cap1 z1 W ⟨zlY hL⟩ w0 x0 w1 x1).mono fun e W' ⟨he, bel⟩ => ?_
 subst he
 exact ⟨_, rfl, _, _, _, [], _, [], hW', trodAll_mk1 (shut_bool Tryz.underlying4 _), (trodAll_cons_mk (Below.trod laidOut (by kernel_rfl) (zDO (by kernel_rfl)) k0 bel lt0) (trodAll_cons_mk (Below.trod laidOut (by kernel_rfl) (zDO (by kernel_rfl)) k1 bel lt1) trodAll_mk0)), rfl, bel.frame _, fun h => by cases h⟩
theorem over (PU : P.zac.Pure) : Rows.LexBackSaid :=
 OpenClaim.holds_of_wide 7 Tryz.f7 rfl rfl rfl rfl rfl rfl rfl ⟨rfl, rfl, rfl, rfl, rfl⟩ rfl rfl rfl rfl rfl (by kernel_rfl) Tryz.func7 (by kernel_rfl)
  (zDO (by kernel_rfl)) (by unfold Func.isWrapper; first | (rw [if_pos (by decide +kernel)]; kernel_rfl) | (rw [if_neg (by decide +kernel)]; exact ⟨rfl, rfl⟩))
  (fun os started H enc _ => lifted PU os started H enc)
theorem zpP (PU : P.zac.Pure) : Rows.LexBackCardSaid :=
 Claim7.holds_tied_plain_at .later [] Rows.lexBackCard.laidKinds true Rows.lexBackCard.stood.harness Rows.lexBackCard.stood.looks (over PU) (fun _ h => by cases h) (by kernel_rfl) (fun _ h => by cases h) lexBack_row_tie rfl ⟨rfl, rfl⟩ (by kernel_rfl) rfl
  (fun f fn hf hfn => by
   obtain rfl : f = 7 := Option.some.inj ((show Tryz.prog.funcNamed "driftnet/driftnetlaw20.LexBack" = some 7 by kernel_rfl).symm.trans hf) |>.symm
   obtain rfl : fn = Tryz.f7 := (Option.some.inj (Tryz.func7.symm.trans hfn)).symm
   exact ⟨by kernel_rfl, fun j t ht => by
    rw [Tryz.params7] at ht
    have hm : t ∈ [46, 47] := by simpa using Array.mem_of_getElem? ht
    have hall : ([46, 47].all fun u => !Tryz.prog.wantsStandIn u) = true := by kernel_rfl
    exact (show Tryz.prog.wantsStandIn t = false by simpa using List.all_eq_true.1 hall t hm)⟩)
  (by kernel_rfl)
end Go.Proofs.YtioofhilohmfbaaGreatDoor.lexBack
end
section
open Go Go.RowKit Go.Lib PrintWords PrintLast PrintMore YtioofhilohmfbaaGreatDoor.P
namespace Go.Proofs.YtioofhilohmfbaaGreatDoor
abbrev Tk := Int × ByteArray × Nat
def zhj : Nat → Nat → List UInt8 → Nat ⊕ List Tk
 | 0, a, _ => .inl a
 | f + 1, a, l =>
  if l.drop (runN zbA l) = [] then .inr []
  else if (zb4 (l.drop (runN zbA l))).2.2.2 = true then
   match zhj f (a + runN zbA l + (zb4 (l.drop (runN zbA l))).2.2.1) ((l.drop (runN zbA l)).drop (zb4 (l.drop (runN zbA l))).2.2.1) with
   | .inl b => .inl b
   | .inr ts => .inr (((zb4 (l.drop (runN zbA l))).1, (zb4 (l.drop (runN zbA l))).2.1, a + runN zbA l) :: ts)
  else .inl (a + runN zbA l)
def zqG (s : List UInt8) : Nat → List Tk → Prop
 | a, [] => ∀ c ∈ s.drop a, zbA c = true
 | a, t :: ts => a ≤ t.2.2 ∧ t.2.2 < s.length ∧ (∀ c ∈ (s.drop a).take (t.2.2 - a), zbA c = true) ∧ ∃ n, zb4 (s.drop t.2.2) = (t.1, t.2.1, n, true) ∧ zqG s (t.2.2 + n) ts
theorem zke {p : UInt8 → Bool} {l : List UInt8} (h : ∀ c ∈ l, p c = true) : runN p l = l.length := by
 induction l with
 | nil => rfl
 | cons c t ih => rw [runN, if_pos (h c (by simp)), ih (fun d hd => h d (by simp [hd])), List.length_cons]; omega
theorem zpQ {p : UInt8 → Bool} {l : List UInt8} {n : Nat} (h : ∀ c ∈ l.take n, p c = true) (hn : n < l.length) (hs : p l[n] = false) : runN p l = n := by
 have e : l = l.take n ++ l[n] :: l.drop (n + 1) := by rw [← List.drop_eq_getElem_cons hn, List.take_append_drop]
 rw [e, zfI p _ _ _ h hs, List.length_take]
 omega
theorem zhk {l : List UInt8} {k : Int} {x : ByteArray} {n : Nat} (h : zb4 l = (k, x, n, true)) : ∃ c t, l = c :: t ∧ zbA c = false := by
 cases l with
 | nil =>
  unfold zb4 at h
  rw [if_pos rfl] at h
  cases h
 | cons c t =>
  refine ⟨c, t, rfl, ?_⟩
  cases hb : zbA c with
  | false => rfl
  | true =>
   exfalso
   have hc : ∀ c : Fin 256, zbA (UInt8.ofNat c.val) = true → zd5 (UInt8.ofNat c.val) = false ∧ zj5 (UInt8.ofNat c.val) = false ∧ UInt8.ofNat c.val ≠ 34 ∧ UInt8.ofNat c.val ≠ 96 ∧ zcx.all (fun x => x.data.toList.head? != some (UInt8.ofNat c.val)) = true := by decide +kernel
   have := hc ⟨c.toNat, c.toNat_lt⟩
   simp only [UInt8.ofNat_toNat] at this
   obtain ⟨h1, h2, h3, h4, h5⟩ := this hb
   unfold zb4 at h
   rw [if_neg (List.cons_ne_nil _ _)] at h
   rw [if_neg (show ¬ zd5 ((c :: t).headD 0) = true by show ¬ zd5 c = true; rw [h1]; exact Bool.false_ne_true), if_neg (show ¬ zj5 ((c :: t).headD 0) = true by show ¬ zj5 c = true; rw [h2]; exact Bool.false_ne_true), if_neg (show ¬ ((c :: t).headD 0 = 34 ∨ (c :: t).headD 0 = 96) from fun e => e.elim (fun e => h3 e) (fun e => h4 e))] at h
   cases hs : zeW (c :: t) with
   | none => rw [hs] at h; cases h
   | some y =>
    obtain ⟨g1, ⟨r, g2⟩, _⟩ := zfJ hs
    have g3 := (zgS y g1).1
    rw [Lib.size_eq] at g3
    have g4 := List.all_eq_true.1 h5 y g1
    cases hy : y.data.toList with
    | nil => rw [hy] at g3; simp at g3
    | cons d u =>
     rw [hy] at g2 g4
     simp only [List.cons_append, List.cons.injEq] at g2
     rw [g2.1] at g4
     simp at g4
theorem zkL (s : List UInt8) : ∀ (ts : List Tk) (f a : Nat), a ≤ s.length → s.length - a < f → zqG s a ts → zhj f a (s.drop a) = .inr ts
 | _, 0, a, ha, hf, h => by omega
 | [], f + 1, a, ha, hf, h => by
  have hr : runN zbA (s.drop a) = (s.drop a).length := zke h
  rw [zhj, hr, List.drop_length, if_pos rfl]
 | t :: ts, f + 1, a, ha, hf, h => by
  obtain ⟨k, x, p⟩ := t
  obtain ⟨h1, h2, h3, n, h4, h5⟩ := h
  simp only at h1 h2 h3 h4 h5
  have hok := zi3 h4
  have hpos := hok.pos
  have hle := hok.le
  rw [List.length_drop] at hle
  obtain ⟨c, t, he, hb⟩ := zhk h4
  have hlt : p - a < (s.drop a).length := by rw [List.length_drop]; omega
  have hg : (s.drop a)[p - a] = c := by
   have e2 : s[p]? = some c := by
    have : (s.drop p)[0]? = some c := by rw [he]; rfl
    rw [List.getElem?_drop] at this
    exact this
   have e3 : (s.drop a)[p - a]? = some c := by rw [List.getElem?_drop, show a + (p - a) = p by omega]; exact e2
   rw [List.getElem?_eq_getElem hlt] at e3
   exact Option.some.inj e3
  have hr : runN zbA (s.drop a) = p - a := zpQ h3 hlt (by rw [hg]; exact hb)
  rw [zhj, hr, List.drop_drop, show a + (p - a) = p by omega, h4, if_neg (by rw [he]; exact List.cons_ne_nil _ _)]
  simp only [if_true]
  rw [List.drop_drop, zkL s ts f (p + n) (by omega) (by omega) h5]
structure Item where
 b : List UInt8
 x : List UInt8
 k : Int
 t : ByteArray
structure zgW (it : Item) : Prop where
 b : ∀ c ∈ it.b, zbA c = true
 x : it.x ≠ []
 first : ∀ c r, zbA c = true → zb4 (it.x ++ c :: r) = (it.k, it.t, it.x.length, true)
def zbz (its : List Item) : List UInt8 := its.flatMap fun it => it.b ++ it.x
def zcb : Nat → List Item → List Tk
 | _, [] => []
 | a, it :: its => (it.k, it.t, a + it.b.length) :: zcb (a + it.b.length + it.x.length) its
theorem zi8 (s : List UInt8) : ∀ (its : List Item) (a : Nat) (e : List UInt8), (∀ it ∈ its, zgW it) → (∀ it ∈ its, it.b ≠ []) → e ≠ [] → (∀ c ∈ e, zbA c = true) → s.drop a = zbz its ++ e → zqG s a (zcb a its)
 | [], a, e, _, _, _, he, h => by
  show ∀ c ∈ _, _
  rw [h]
  exact he
 | it :: its, a, e, ho, hb, hne, he, h => by
  have o := ho it (by simp)
  have hB : zbz (it :: its) = it.b ++ (it.x ++ zbz its) := by unfold zbz; simp
  rw [hB, List.append_assoc, List.append_assoc] at h
  have hnext : ∃ c r, zbz its ++ e = c :: r ∧ zbA c = true := by
   cases its with
   | nil =>
    cases e with
    | nil => exact absurd rfl hne
    | cons c r => exact ⟨c, r, rfl, he c (by simp)⟩
   | cons jt its =>
    have hj := hb jt (by simp)
    have oj := (ho jt (by simp)).b
    cases hjb : jt.b with
    | nil => exact absurd hjb hj
    | cons c r =>
     refine ⟨c, r ++ jt.x ++ zbz its ++ e, ?_, oj c (by rw [hjb]; simp)⟩
     unfold zbz
     simp [hjb]
  obtain ⟨c, r, hcr, hc⟩ := hnext
  have hd : s.drop (a + it.b.length) = it.x ++ (zbz its ++ e) := by
   rw [← List.drop_drop, h, List.drop_left]
  have hd2 : s.drop (a + it.b.length + it.x.length) = zbz its ++ e := by
   rw [← List.drop_drop, hd, List.drop_left]
  refine ⟨Nat.le_add_right _ _, ?_, ?_, it.x.length, ?_, ?_⟩
  ·refine Nat.lt_of_not_le fun hle => ?_
   have := List.drop_eq_nil_iff.2 hle
   have h3 : s.drop (a + it.b.length) = [] := this
   rw [hd, hcr] at h3
   simp at h3
  ·show ∀ c ∈ (s.drop a).take (a + it.b.length - a), _
   rw [Nat.add_sub_cancel_left, h, List.take_left]
   exact o.b
  ·show zb4 (s.drop (a + it.b.length)) = _
   rw [hd, hcr]
   exact o.first c r hc
  ·exact zi8 s its (a + it.b.length + it.x.length) e (fun jt hj => ho jt (by simp [hj])) (fun jt hj => hb jt (by simp [hj])) hne he hd2
end Go.Proofs.YtioofhilohmfbaaGreatDoor
end
section
open Go PrintWords
namespace Go.Proofs.YtioofhilohmfbaaGreatDoor
theorem zi9 {s t : ByteArray} (h : s.data.toList = t.data.toList) : s = t := by
 cases s with | mk a => cases t with | mk b => cases a with | mk l => cases b with | mk m => simp only at h; rw [h]
theorem zkM (s : ByteArray) : s.data.toList.length = s.size := (Lib.size_eq s).symm
theorem zc2 (s : ByteArray) (a b : Nat) : (s.extract a b).data.toList = (s.data.toList.take b).drop a := by
 rw [ByteArray.data_extract, Array.toList_extract, List.extract_eq_take_drop, List.drop_take]
def zmT : List UInt8 → Option (List UInt8 × List UInt8)
 | [] => none
 | c :: t => match zgt c.toNat with
  | some b => some ([UInt8.ofNat b], t)
  | none => match zf3 c.toNat with
   | none => none
   | some n => if t.length < n then none else
    if zhp (t.take n) then
     if n = 2 then some ([UInt8.ofNat (zcz (t.take n))], t.drop n)
     else if ze7 (zcz (t.take n)) then some (Lib.encodeRune (zcz (t.take n) : Nat), t.drop n) else none
    else none
def ofL (x : List UInt8 × List UInt8) : ByteArray × ByteArray := (⟨x.1.toArray⟩, ⟨x.2.toArray⟩)
theorem zja (l : List UInt8) : zcc ⟨l.toArray⟩ = (zmT l).map ofL := by
 have hsz : (⟨l.toArray⟩ : ByteArray).size = l.length := rfl
 cases l with
 | nil => rfl
 | cons c t =>
  unfold zcc
  rw [if_neg (by rw [hsz]; simp)]
  have hg : ((⟨(c :: t).toArray⟩ : ByteArray).data.toList.getD 0 0) = c := rfl
  rw [hg, zmT]
  cases zgt c.toNat with
  | some b =>
   simp only [Option.map_some, ofL]
   congr 2
   refine zi9 ?_
   rw [zc2, hsz]; simp
  | none =>
   simp only
   cases zf3 c.toNat with
   | none => rfl
   | some n =>
    simp only
    have e1 : ((⟨(c :: t).toArray⟩ : ByteArray).extract 1 (1 + n)).data.toList = t.take n := by
     rw [zc2, Nat.add_comm]; simp
    have e2 : (⟨(c :: t).toArray⟩ : ByteArray).extract (1 + n) (⟨(c :: t).toArray⟩ : ByteArray).size = ⟨(t.drop n).toArray⟩ := by
     refine zi9 ?_
     rw [zc2, hsz, Nat.add_comm]; simp
    rw [e1, e2, hsz, List.length_cons]
    by_cases h : t.length < n
    ·rw [if_pos (by omega), if_pos h]; rfl
    ·rw [if_neg (by omega), if_neg h]
     split
     ·split
      ·rfl
      ·split <;> rfl
     ·rfl
theorem zkN {t u r : List UInt8} (h : zmT t = some (u, r)) : r.length < t.length := by
 unfold zmT at h
 split at h
 ·cases h
 ·split at h
  ·cases h; simp
  ·split at h
   ·cases h
   ·split at h
    ·cases h
    ·rename_i c t' _ _ _ n _ _
     split at h
     ·split at h
      ·cases h; simp [List.length_drop]; omega
      ·split at h
       ·cases h; simp [List.length_drop]; omega
       ·cases h
     ·cases h
def zf0 (dq : Bool) : Nat := if dq = true then 34 else 96
def zjk (dq : Bool) : Nat → List UInt8 → List UInt8 → Option (List UInt8)
 | 0, _, _ => none
 | _ + 1, [], acc => some acc
 | k + 1, c :: t, acc => if c.toNat = zf0 dq ∨ dq = true ∧ c.toNat = 10 then none
  else if dq = true ∧ c.toNat = 92 then
   match zmT t with
   | none => none
   | some x => zjk dq k x.2 (acc ++ x.1)
  else zjk dq k t (acc ++ [c])
theorem zdD (dq : Bool) : ∀ (k : Nat) (l acc : List UInt8), zcd dq k ⟨l.toArray⟩ acc = zjk dq k l acc
 | 0, _, _ => by simp [zcd, zjk]
 | k + 1, [], acc => by
  rw [zcd, zjk, if_pos (show (⟨([] : List UInt8).toArray⟩ : ByteArray).size = 0 from rfl)]
 | k + 1, c :: t, acc => by
  have hsz : (⟨(c :: t).toArray⟩ : ByteArray).size = t.length + 1 := rfl
  have e1 : (⟨(c :: t).toArray⟩ : ByteArray).extract 1 (⟨(c :: t).toArray⟩ : ByteArray).size = ⟨t.toArray⟩ := by
   refine zi9 ?_
   rw [zc2, hsz]; simp
  have hg : ((⟨(c :: t).toArray⟩ : ByteArray).data.toList.getD 0 0) = c := rfl
  have hm : ((c.toNat : Int) = if dq = true then 34 else 96) ↔ c.toNat = zf0 dq := by
   unfold zf0; cases dq <;> simp <;> omega
  rw [zcd, zjk, if_neg (by rw [hsz]; omega), e1, hg]
  by_cases h1 : c.toNat = zf0 dq ∨ dq = true ∧ c.toNat = 10
  ·rw [if_pos h1, if_pos (by rcases h1 with h | h; exact Or.inl (hm.2 h); exact Or.inr h)]
  ·rw [if_neg h1, if_neg (by intro h; exact h1 (by rcases h with h | h; exact Or.inl (hm.1 h); exact Or.inr h))]
   by_cases h2 : dq = true ∧ c.toNat = 92
   ·rw [if_pos h2, if_pos h2, zja]
    cases hE : zmT t with
    | none => rfl
    | some x =>
     simp only [Option.map_some, ofL]
     exact zdD dq k x.2 _
   ·rw [if_neg h2, if_neg h2]
    exact zdD dq k t _
theorem zfp (dq : Bool) : ∀ (k m : Nat) (l acc : List UInt8), l.length < k → l.length < m → zjk dq k l acc = zjk dq m l acc
 | 0, _, _, _, h, _ => absurd h (by omega)
 | k + 1, 0, _, _, _, h => absurd h (by omega)
 | k + 1, m + 1, [], acc, _, _ => by rw [zjk, zjk]
 | k + 1, m + 1, c :: t, acc, h, h' => by
  rw [List.length_cons] at h h'
  rw [zjk, zjk]
  split
  ·rfl
  ·split
   ·cases hE : zmT t with
    | none => rfl
    | some x =>
     have := zkN (u := x.1) (r := x.2) hE
     exact zfp dq k m x.2 _ (by omega) (by omega)
   ·exact zfp dq k m t _ (by omega) (by omega)
def unq (dq : Bool) (l acc : List UInt8) : Option (List UInt8) := zjk dq (l.length + 1) l acc
theorem zpR (dq : Bool) (acc : List UInt8) : unq dq [] acc = some acc := by unfold unq; rw [List.length_nil, zjk]
theorem zio (dq : Bool) (c : UInt8) (t acc : List UInt8) : unq dq (c :: t) acc = if c.toNat = zf0 dq ∨ dq = true ∧ c.toNat = 10 then none
  else if dq = true ∧ c.toNat = 92 then
   match zmT t with
   | none => none
   | some x => unq dq x.2 (acc ++ x.1)
  else unq dq t (acc ++ [c]) := by
 unfold unq
 rw [List.length_cons, zjk]
 split
 ·rfl
 ·split
  ·cases hE : zmT t with
   | none => rfl
   | some x =>
    have := zkN (u := x.1) (r := x.2) hE
    exact zfp dq _ _ x.2 _ (by omega) (by omega)
  ·rfl
theorem zoc (q : UInt8) (m : List UInt8) : bt ⟨(q :: m).toArray⟩ 0 = q.toNat := by
 have h : (0 : Int).toNat < (⟨(q :: m).toArray⟩ : ByteArray).size := by show 0 < m.length + 1; omega
 rw [← zdE _ 0 h]; rfl
theorem zpS (q e : UInt8) (m : List UInt8) : bt ⟨(q :: (m ++ [e])).toArray⟩ (((⟨(q :: (m ++ [e])).toArray⟩ : ByteArray).size : Int) - 1) = e.toNat := by
 have hs : (⟨(q :: (m ++ [e])).toArray⟩ : ByteArray).size = m.length + 2 := by show (q :: (m ++ [e])).length = _; simp
 have hn : (((⟨(q :: (m ++ [e])).toArray⟩ : ByteArray).size : Int) - 1).toNat = m.length + 1 := by rw [hs]; omega
 have h : (((⟨(q :: (m ++ [e])).toArray⟩ : ByteArray).size : Int) - 1).toNat < (⟨(q :: (m ++ [e])).toArray⟩ : ByteArray).size := by rw [hn, hs]; omega
 rw [← zdE _ _ h]
 have : (⟨(q :: (m ++ [e])).toArray⟩ : ByteArray)[(((⟨(q :: (m ++ [e])).toArray⟩ : ByteArray).size : Int) - 1).toNat]'h = e := by
  have h2 : m.length + 1 < (⟨(q :: (m ++ [e])).toArray⟩ : ByteArray).size := by rw [hs]; omega
  have : ∀ (k : Nat) (hk : k < (⟨(q :: (m ++ [e])).toArray⟩ : ByteArray).size), k = m.length + 1 → (⟨(q :: (m ++ [e])).toArray⟩ : ByteArray)[k]'hk = e := by
   intro k hk hk2
   subst hk2
   show (q :: (m ++ [e]))[m.length + 1]'(by simp) = e
   simp
  exact this _ h hn
 rw [this]
theorem zkf (q e : UInt8) (m : List UInt8) : zbO ⟨(q :: (m ++ [e])).toArray⟩ =
  if q = e then if q = 34 then unq true m [] else if q = 96 then unq false m [] else none else none := by
 have hs : (⟨(q :: (m ++ [e])).toArray⟩ : ByteArray).size = m.length + 2 := by show (q :: (m ++ [e])).length = _; simp
 have hx : (⟨(q :: (m ++ [e])).toArray⟩ : ByteArray).extract 1 ((⟨(q :: (m ++ [e])).toArray⟩ : ByteArray).size - 1) = ⟨m.toArray⟩ := by
  refine zi9 ?_
  rw [zc2, hs]
  simp
 have hq : ∀ n : Nat, n < 256 → (((q.toNat : Int) = n) ↔ q = UInt8.ofNat n) := fun n hn => by
  constructor
  ·intro h
   have : q.toNat = n := by omega
   rw [← this]; simp
  ·intro h; rw [h]; simp; omega
 unfold zbO
 rw [if_neg (by rw [hs]; omega), zoc, zpS, hx, zdD, zdD]
 have hqe : ((q.toNat : Int) = e.toNat) ↔ q = e := by
  constructor
  ·intro h; exact UInt8.toNat_inj.1 (by omega)
  ·intro h; rw [h]
 have hm : ∀ dq, zjk dq (⟨(q :: (m ++ [e])).toArray⟩ : ByteArray).size m [] = unq dq m [] := fun dq => zfp dq _ _ m [] (by rw [hs]; omega) (by omega)
 rw [hm, hm]
 have h34 : ((q.toNat : Int) = 34) ↔ q = 34 := hq 34 (by omega)
 have h96 : ((q.toNat : Int) = 96) ↔ q = 96 := hq 96 (by omega)
 by_cases c1 : q = e
 ·rw [if_pos (hqe.2 c1), if_pos c1]
  by_cases c2 : q = 34
  ·rw [if_pos (h34.2 c2), if_pos c2]
  ·rw [if_neg (fun h => c2 (h34.1 h)), if_neg c2]
   by_cases c3 : q = 96
   ·rw [if_pos (h96.2 c3), if_pos c3]
   ·rw [if_neg (fun h => c3 (h96.1 h)), if_neg c3]
 ·rw [if_neg (fun h => c1 (hqe.1 h)), if_neg c1]
end Go.Proofs.YtioofhilohmfbaaGreatDoor
end
section
open Go PrintWords Go.Lib
namespace Go.Proofs.YtioofhilohmfbaaGreatDoor
inductive Kind : Int → List UInt8 → Prop
 |ascii (c : UInt8) (h : c.toNat < 128) : Kind c.toNat [c]
 |multi (r : Nat) (l : List UInt8) (h1 : 128 ≤ r) (h2 : r ≤ 1114111) (hs : r < 55296 ∨ 57343 < r) (he : l = encodeRune (r : Int)) (hb : ∀ c ∈ l, 128 ≤ c.toNat) (hl : 2 ≤ l.length ∧ l.length ≤ 4) : Kind r l
 |bad (c : UInt8) (h : 128 ≤ c.toNat) : Kind 65533 [c]
theorem ziq (l : List UInt8) (h : l ≠ []) : decodeGo ⟨l.toArray⟩ = decodeL l := by
 unfold decodeGo
 rw [if_neg (by show ¬ l.length = 0; simpa using h)]
 rfl
theorem zrp : ∀ (a : UInt8) (t : List UInt8), 1 < (a :: t).length → ∃ b t', t = b :: t'
 | _, [], h => absurd h (by simp)
 | _, b :: t', _ => ⟨b, t', rfl⟩
theorem zrq : ∀ (a : UInt8) (t : List UInt8), 2 < (a :: t).length → ∃ b d t', t = b :: d :: t'
 | _, [], h => absurd h (by simp)
 | _, [_], h => absurd h (by simp)
 | _, b :: d :: t', _ => ⟨b, d, t', rfl⟩
theorem zrr : ∀ (a : UInt8) (t : List UInt8), 3 < (a :: t).length → ∃ b d f t', t = b :: d :: f :: t'
 | _, [], h => absurd h (by simp)
 | _, [_], h => absurd h (by simp)
 | _, [_, _], h => absurd h (by simp)
 | _, b :: d :: f :: t', _ => ⟨b, d, f, t', rfl⟩
theorem zmU (l : List UInt8) (hne : l ≠ []) : Kind ((decodeL l).1 : Nat) (l.take (decodeL l).2) := by
 have hed := encode_decode l hne
 obtain ⟨a, t, rfl⟩ : ∃ a t, l = a :: t := by cases l with | nil => exact absurd rfl hne | cons a t => exact ⟨a, t, rfl⟩
 rw [decodeL_N] at hed ⊢
 have k0 := a.toNat_lt
 rcases decodeN_shape (a :: t).length ((a :: t).getD 0 0).toNat ((a :: t).getD 1 0).toNat ((a :: t).getD 2 0).toNat ((a :: t).getD 3 0).toNat with ⟨c, e⟩ | ⟨c1, c2, c3, cv, e⟩ | ⟨c1, c2, c3, c4, cv, cs, e⟩ | ⟨c1, c2, c3, c4, c5, cv, cw, e⟩ | e
 ·rw [e]
  exact Kind.ascii a c
 ·rw [e] at hed ⊢
  simp only at hed ⊢
  obtain ⟨b, t, rfl⟩ : ∃ b t', t = b :: t' := zrp a t c2
  simp only [List.getD_cons_zero, List.getD_cons_succ] at c1 c3 cv hed ⊢
  refine Kind.multi _ _ cv (by omega) (by omega) (hed (by omega)).symm ?_ (by simp)
  intro c hc
  simp at hc
  rcases hc with rfl | rfl <;> omega
 ·rw [e] at hed ⊢
  simp only at hed ⊢
  obtain ⟨b, d, t, rfl⟩ : ∃ b d t', t = b :: d :: t' := zrq a t c2
  simp only [List.getD_cons_zero, List.getD_cons_succ] at c1 c3 c4 cv cs hed ⊢
  refine Kind.multi _ _ (by omega) (by omega) (by omega) (hed (by omega)).symm ?_ (by simp)
  intro c hc
  simp at hc
  rcases hc with rfl | rfl | rfl <;> omega
 ·rw [e] at hed ⊢
  simp only at hed ⊢
  obtain ⟨b, d, f, t, rfl⟩ : ∃ b d f t', t = b :: d :: f :: t' := zrr a t c2
  simp only [List.getD_cons_zero, List.getD_cons_succ] at c1 c3 c4 c5 cv cw hed ⊢
  refine Kind.multi _ _ (by omega) (by omega) (by omega) (hed (by omega)).symm ?_ (by simp)
  intro c hc
  simp at hc
  rcases hc with rfl | rfl | rfl | rfl <;> omega
 ·rw [e]
  refine Kind.bad a ?_
  rcases Nat.lt_or_ge a.toNat 128 with h | h
  ·have := decodeN_ascii (a :: t).length ((a :: t).getD 0 0).toNat ((a :: t).getD 1 0).toNat ((a :: t).getD 2 0).toNat ((a :: t).getD 3 0).toNat h
   rw [e] at this
   have h2 := congrArg Prod.fst this
   simp only at h2
   have h3 : (a :: t).getD 0 0 = a := rfl
   rw [h3] at h2
   omega
  ·exact h
theorem zfM : ∀ (n : Nat) (s : ByteArray), s.size ≤ n → (∀ x ∈ zbG s, Kind x.1 x.2.data.toList) ∧ ((zbG s).flatMap fun x => x.2.data.toList) = s.data.toList
 | n, s, hn => by
  by_cases h0 : s.size = 0
  ·rw [zfY s h0]
   refine ⟨fun x hx => (by cases hx), ?_⟩
   have : s.data.toList.length = 0 := by rw [zkM, h0]
   rw [List.eq_nil_of_length_eq_zero this]; rfl
  ·have hb := zco s h0
   cases n with
   | zero => omega
   | succ n =>
    have ih := zfM n (s.extract (decodeGo s).2 s.size) (by rw [extract_size]; omega)
    rw [zfl s h0]
    have hl : s.data.toList ≠ [] := fun h => by have := zkM s; rw [h] at this; simp at this; omega
    have hs : s = ⟨s.data.toList.toArray⟩ := zi9 rfl
    have hd : decodeGo s = decodeL s.data.toList := by
     have := ziq s.data.toList hl
     rw [← hs] at this
     exact this
    have e1 : (s.extract 0 (decodeGo s).2).data.toList = s.data.toList.take (decodeL s.data.toList).2 := by rw [zc2, hd, List.drop_zero]
    have e2 : (s.extract (decodeGo s).2 s.size).data.toList = s.data.toList.drop (decodeL s.data.toList).2 := by
     rw [zc2, hd, List.take_of_length_le (by rw [zkM]; exact Nat.le_refl _)]
    constructor
    ·intro x hx
     rcases List.mem_cons.1 hx with rfl | hx
     ·simp only
      rw [e1, hd]
      exact zmU _ hl
     ·exact ih.1 x hx
    ·rw [List.flatMap_cons, ih.2]
     simp only
     rw [e1, e2, List.take_append_drop]
theorem kinds (s : ByteArray) : ∀ x ∈ zbG s, Kind x.1 x.2.data.toList := (zfM s.size s (Nat.le_refl _)).1
theorem flat (s : ByteArray) : ((zbG s).flatMap fun x => x.2.data.toList) = s.data.toList := (zfM s.size s (Nat.le_refl _)).2
def qp (r : Int) (l : List UInt8) : List UInt8 :=
 if r = 34 then 92 :: l else if r = 92 then 92 :: l else if r = 10 then [92, 110] else if r = 13 then [92, 114] else if r = 9 then [92, 116]
 else if r < 32 ∨ r = 127 ∨ (r = 65533 ∧ l.length = 1) then [92, 120, zbc ((l.getD 0 0).toNat / 16), zbc ((l.getD 0 0).toNat % 16)] else l
theorem zd8 (x : Int × ByteArray) : zaV x = qp x.1 x.2.data.toList := by
 unfold zaV qp
 have e : x.2.get! 0 = x.2.data.toList.getD 0 0 := by
  obtain ⟨r, b⟩ := x
  cases b with | mk d => cases d with | mk l => cases l <;> rfl
 rw [e, zkM]
theorem zod : ∀ c : Fin 256, zhp [zbc (c.val / 16), zbc (c.val % 16)] = true ∧ zcz [zbc (c.val / 16), zbc (c.val % 16)] = c.val := by decide +kernel
theorem zgX (c : UInt8) (b : Nat) (h : zgt c.toNat = some b) (rest acc : List UInt8) : unq true (92 :: c :: rest) acc = unq true rest (acc ++ [UInt8.ofNat b]) := by
 rw [zio, if_neg (by decide), if_pos (by decide), zmT, h]
theorem zmV (c : UInt8) (rest acc : List UInt8) : unq true (92 :: 120 :: zbc (c.toNat / 16) :: zbc (c.toNat % 16) :: rest) acc = unq true rest (acc ++ [c]) := by
 obtain ⟨h1, h2⟩ := zod ⟨c.toNat, c.toNat_lt⟩
 simp only at h1 h2
 rw [zio, if_neg (by decide), if_pos (by decide), zmT, show zgt (120 : UInt8).toNat = none from rfl, show zf3 (120 : UInt8).toNat = some 2 from rfl]
 simp only
 rw [if_neg (by simp)]
 simp only [List.take_succ_cons, List.take_zero, List.drop_succ_cons, List.drop_zero]
 rw [if_pos h1, h2]
 simp
theorem zjb (dq : Bool) (c : UInt8) (h1 : c.toNat ≠ zf0 dq) (h2 : c.toNat ≠ 10) (h3 : c.toNat ≠ 92) (rest acc : List UInt8) : unq dq (c :: rest) acc = unq dq rest (acc ++ [c]) := by
 rw [zio, if_neg (by rintro (h | ⟨_, h⟩); exact h1 h; exact h2 h), if_neg (by rintro ⟨_, h⟩; exact h3 h)]
theorem zkO (dq : Bool) : ∀ (l rest acc : List UInt8), (∀ c ∈ l, 128 ≤ c.toNat) → unq dq (l ++ rest) acc = unq dq rest (acc ++ l)
 | [], rest, acc, _ => by simp
 | c :: l, rest, acc, h => by
  have hc := h c (by simp)
  rw [List.cons_append, zjb dq c (by unfold zf0; split <;> omega) (by omega) (by omega), zkO dq l rest _ (fun x hx => h x (by simp [hx]))]
  simp
theorem zpT {r : Int} {l : List UInt8} (h : Kind r l) (rest acc : List UInt8) : unq true (qp r l ++ rest) acc = unq true rest (acc ++ l) := by
 cases h with
 | ascii c hc =>
  have u : ∀ n : Nat, n < 256 → c.toNat = n → c = UInt8.ofNat n := fun n hn h => by rw [← h]; simp
  unfold qp
  by_cases h34 : c.toNat = 34
  ·rw [if_pos (by omega), u 34 (by omega) h34]; exact zgX 34 34 rfl rest acc
  ·rw [if_neg (by omega)]
   by_cases h92 : c.toNat = 92
   ·rw [if_pos (by omega), u 92 (by omega) h92]; exact zgX 92 92 rfl rest acc
   ·rw [if_neg (by omega)]
    by_cases h10 : c.toNat = 10
    ·rw [if_pos (by omega), u 10 (by omega) h10]; exact zgX 110 10 rfl rest acc
    ·rw [if_neg (by omega)]
     by_cases h13 : c.toNat = 13
     ·rw [if_pos (by omega), u 13 (by omega) h13]; exact zgX 114 13 rfl rest acc
     ·rw [if_neg (by omega)]
      by_cases h9 : c.toNat = 9
      ·rw [if_pos (by omega), u 9 (by omega) h9]; exact zgX 116 9 rfl rest acc
      ·rw [if_neg (by omega)]
       by_cases hh : c.toNat < 32 ∨ c.toNat = 127
       ·rw [if_pos (by omega)]; exact zmV c rest acc
       ·rw [if_neg (by omega)]
        exact zjb true c (by unfold zf0; simpa using h34) h10 h92 rest acc
 | multi r l h1 h2 hs he hb hl =>
  unfold qp
  rw [if_neg (by omega), if_neg (by omega), if_neg (by omega), if_neg (by omega), if_neg (by omega), if_neg (by omega)]
  exact zkO true l rest acc hb
 | bad c hc =>
  unfold qp
  rw [if_neg (by decide), if_neg (by decide), if_neg (by decide), if_neg (by decide), if_neg (by decide), if_pos (by right; right; exact ⟨rfl, rfl⟩)]
  exact zmV c rest acc
theorem zgY : ∀ (ps : List (Int × ByteArray)), (∀ x ∈ ps, Kind x.1 x.2.data.toList) → ∀ (rest acc : List UInt8), unq true (ps.flatMap zaV ++ rest) acc = unq true rest (acc ++ ps.flatMap fun x => x.2.data.toList)
 | [], _, rest, acc => by simp
 | x :: ps, h, rest, acc => by
  rw [List.flatMap_cons, List.append_assoc, zd8, zpT (h x (by simp)), zgY ps (fun y hy => h y (by simp [hy])), List.flatMap_cons, List.append_assoc]
theorem zir (s : ByteArray) : zbO ⟨(zcu s).toArray⟩ = some s.data.toList := by
 unfold zcu
 rw [show (34 : UInt8) :: (zbG s).flatMap zaV ++ [34] = 34 :: ((zbG s).flatMap zaV ++ [34]) from rfl, zkf, if_pos rfl, if_pos rfl]
 have := zgY (zbG s) (kinds s) [] []
 rw [List.append_nil] at this
 rw [this, zpR, flat]
 rfl
end Go.Proofs.YtioofhilohmfbaaGreatDoor
end
section
open Go Go.RowKit Go.Lib PrintWords PrintLast PrintMore YtioofhilohmfbaaGreatDoor.P
namespace Go.Proofs.YtioofhilohmfbaaGreatDoor
theorem zqA {r : Int} {l : List UInt8} (h : Kind r l) : l.length ≤ (qp r l).length ∧ (qp r l).length ≤ 4 * l.length := by
 have h1 : 1 ≤ l.length := by
  cases h with
  | ascii c h => exact Nat.le_refl 1
  | multi r l a b c d e f => omega
  | bad c h => exact Nat.le_refl 1
 have hm : l.length = 1 ∨ 128 ≤ r := by
  cases h with
  | ascii c h => exact .inl rfl
  | multi r l a b c d e f => exact .inr (by omega)
  | bad c h => exact .inl rfl
 unfold qp
 repeat' split
 all_goals (try simp only [List.length_cons, List.length_nil])
 all_goals omega
theorem zjc : ∀ (ps : List (Int × ByteArray)), (∀ x ∈ ps, Kind x.1 x.2.data.toList) → (ps.flatMap fun x => x.2.data.toList).length ≤ (ps.flatMap zaV).length ∧ (ps.flatMap zaV).length ≤ 4 * (ps.flatMap fun x => x.2.data.toList).length
 | [], _ => by simp
 | x :: ps, h => by
  have a := zqA (h x (by simp))
  have b := zjc ps fun y hy => h y (by simp [hy])
  rw [List.flatMap_cons, List.flatMap_cons, List.length_append, List.length_append, zd8]
  omega
def QOK (p : List UInt8) : Prop := ∀ t, zbW 34 (p ++ t) = (zbW 34 t).map (· + p.length)
theorem zmW : QOK [] := fun t => by
 rw [List.nil_append]
 cases zbW 34 t <;> rfl
theorem zmX {a b : List UInt8} (ha : QOK a) (hb : QOK b) : QOK (a ++ b) := fun t => by
 rw [List.append_assoc, ha, hb, List.length_append]
 cases zbW 34 t with
 | none => rfl
 | some q => simp only [Option.map_some]; congr 1; omega
theorem zfq : ∀ l : List UInt8, (∀ c ∈ l, c ≠ 34 ∧ c ≠ 92) → QOK l
 | [], _ => zmW
 | c :: l, h => fun t => by
  obtain ⟨h1, h2⟩ := h c (by simp)
  rw [List.cons_append, zeF 34 c _ (fun h => h2 h.1), if_neg h1, zfq l (fun d hd => h d (by simp [hd])) t, List.length_cons]
  cases zbW 34 t with
  | none => rfl
  | some q => simp only [Option.map_some]; congr 1
theorem zdS (c : UInt8) : QOK [92, c] := fun t => by
 show zbW 34 (92 :: c :: t) = _
 rw [zgQ 34 _ (by decide) (by decide)]; rfl
theorem zhO : ∀ k : Fin 16, zbc k.val ≠ 34 ∧ zbc k.val ≠ 92 := by decide +kernel
theorem zmY (n : Nat) (hn : n < 256) : QOK [92, 120, zbc (n / 16), zbc (n % 16)] := by
 have a := zhO ⟨n / 16, by omega⟩
 have b := zhO ⟨n % 16, by omega⟩
 refine zmX (a := [92, 120]) (b := [zbc (n / 16), zbc (n % 16)]) (zdS 120) (zfq _ fun c hc => ?_)
 simp only [List.mem_cons, List.not_mem_nil, or_false] at hc
 rcases hc with rfl | rfl
 ·exact a
 ·exact b
theorem zqB {r : Int} {l : List UInt8} (h : Kind r l) : QOK (qp r l) := by
 cases h with
 | ascii c hc =>
  unfold qp
  by_cases h34 : c.toNat = 34
  ·rw [if_pos (by omega)]; exact zdS c
  ·rw [if_neg (by omega)]
   by_cases h92 : c.toNat = 92
   ·rw [if_pos (by omega)]; exact zdS c
   ·rw [if_neg (by omega)]
    by_cases h10 : c.toNat = 10
    ·rw [if_pos (by omega)]; exact zdS 110
    ·rw [if_neg (by omega)]
     by_cases h13 : c.toNat = 13
     ·rw [if_pos (by omega)]; exact zdS 114
     ·rw [if_neg (by omega)]
      by_cases h9 : c.toNat = 9
      ·rw [if_pos (by omega)]; exact zdS 116
      ·rw [if_neg (by omega)]
       by_cases hh : c.toNat < 32 ∨ c.toNat = 127
       ·rw [if_pos (by omega)]; exact zmY c.toNat (by omega)
       ·rw [if_neg (by omega)]
        exact zfq [c] fun x hx => by
         simp only [List.mem_cons, List.not_mem_nil, or_false] at hx
         subst hx
         exact ⟨fun e => h34 (by rw [e]; rfl), fun e => h92 (by rw [e]; rfl)⟩
 | multi r l h1 h2 hs he hb hl =>
  unfold qp
  rw [if_neg (by omega), if_neg (by omega), if_neg (by omega), if_neg (by omega), if_neg (by omega), if_neg (by omega)]
  exact zfq l fun c hc => by
   have := hb c hc
   exact ⟨fun e => by rw [e] at this; exact absurd this (by decide), fun e => by rw [e] at this; exact absurd this (by decide)⟩
 | bad c hc =>
  unfold qp
  rw [if_neg (by decide), if_neg (by decide), if_neg (by decide), if_neg (by decide), if_neg (by decide), if_pos (by right; right; exact ⟨rfl, rfl⟩)]
  exact zmY c.toNat c.toNat_lt
theorem zkP : ∀ (ps : List (Int × ByteArray)), (∀ x ∈ ps, Kind x.1 x.2.data.toList) → QOK (ps.flatMap zaV)
 | [], _ => zmW
 | x :: ps, h => by
  rw [List.flatMap_cons, zd8]
  exact zmX (zqB (h x (by simp))) (zkP ps fun y hy => h y (by simp [hy]))
theorem zmZ : ∀ c : Fin 256, zbA (UInt8.ofNat c.val) = true → zdj (UInt8.ofNat c.val) = false ∧ zfV (UInt8.ofNat c.val) = false ∧ UInt8.ofNat c.val ∈ ([32, 9, 10, 13] : List UInt8) := by decide +kernel
theorem zkQ (c : UInt8) (h : zbA c = true) : zdj c = false ∧ zfV c = false ∧ c ∈ ([32, 9, 10, 13] : List UInt8) := by
 have := zmZ ⟨c.toNat, c.toNat_lt⟩
 simp only [UInt8.ofNat_toNat] at this
 exact this h
theorem zm0 (b w : List UInt8) (hb : ∀ c ∈ b, zbA c = true) (h0 : w ≠ []) (hw : zd5 (w.headD 0) = true) (hp : ∀ c ∈ w, zdj c = true) : zgW ⟨b, w, 1, mkB w⟩ := by
 refine ⟨hb, h0, fun c r hc => ?_⟩
 have hh : (w ++ c :: r).headD 0 = w.headD 0 := by
  cases w with
  | nil => exact absurd rfl h0
  | cons a l => rfl
 have hne : w ++ c :: r ≠ [] := by simp
 have hrun : runN zdj (w ++ c :: r) = w.length := zfI zdj w c r hp (zkQ c hc).1
 show zb4 (w ++ c :: r) = _
 unfold zb4
 rw [if_neg hne, hh, if_pos hw, hrun, List.take_left]
theorem zkg (t : List UInt8) : zb4 (34 :: t) = match zbW 34 t with
  | none => ((2 : Int), (⟨#[]⟩ : ByteArray), 0, false)
  | some j => (2, (zbO (mkB ((34 :: t).take (j + 1)))).elim ⟨#[]⟩ mkB, j + 1, (zbO (mkB ((34 :: t).take (j + 1)))).isSome) := by
 obtain ⟨l, hl⟩ : ∃ l, 34 :: t = l := ⟨_, rfl⟩
 have hne : l ≠ [] := by rw [← hl]; exact List.cons_ne_nil _ _
 have hh : l.headD 0 = 34 := by rw [← hl]; rfl
 have ht : l.tail = t := by rw [← hl]; rfl
 rw [hl]
 unfold zb4
 rw [if_neg hne, hh, ht, if_neg (show ¬ zd5 34 = true by decide), if_neg (show ¬ zj5 34 = true by decide), if_pos (show (34 : UInt8) = 34 ∨ (34 : UInt8) = 96 from .inl rfl)]
 cases zbW 34 t <;> rfl
theorem zm1 (b : List UInt8) (s : ByteArray) (hb : ∀ c ∈ b, zbA c = true) : zgW ⟨b, zcu s, 2, s⟩ := by
 have hu := zir s
 have hk := zkP (zbG s) (kinds s)
 unfold zcu at hu ⊢
 generalize (zbG s).flatMap zaV = B at hu hk
 refine ⟨hb, by simp, fun c r hc => ?_⟩
 have e : (34 :: B ++ [34]) ++ c :: r = 34 :: (B ++ 34 :: c :: r) := by simp
 have h1 : zbW 34 (34 :: c :: r) = some 1 := by rw [zeF 34 34 _ (by decide), if_pos rfl]
 have hq := hk (34 :: c :: r)
 rw [h1] at hq
 have et : (34 :: (B ++ 34 :: c :: r)).take (1 + B.length + 1) = 34 :: (B ++ [34]) := by
  rw [List.take_succ_cons, Nat.add_comm, show B ++ 34 :: c :: r = (B ++ [34]) ++ c :: r by simp, List.take_append_of_le_length (by simp), List.take_of_length_le (by simp)]
 have hu2 : zbO (mkB (34 :: (B ++ [34]))) = some s.data.toList := hu
 show zb4 ((34 :: B ++ [34]) ++ c :: r) = _
 rw [e]
 rw [zkg]
 rw [hq]
 simp only [Option.map_some]
 rw [et, hu2]
 simp only [Option.elim_some, Option.isSome_some, List.length_append, List.length_cons, List.length_nil]
 refine congrArg (fun x => ((2 : Int), x)) ?_
 refine Prod.ext (ByteArray.ext rfl) (Prod.ext ?_ rfl)
 show 1 + B.length + 1 = B.length + 1 + (0 + 1)
 omega
theorem zgZ (b x : List UInt8) (k : Int) (t : ByteArray) (hb : ∀ c ∈ b, zbA c = true) (h0 : x ≠ []) (h : ∀ c ∈ ([32, 9, 10, 13] : List UInt8), zb4 (x ++ [c]) = (k, t, x.length, true)) : zgW ⟨b, x, k, t⟩ :=
 ⟨hb, h0, fun c r hc => zls (h c (zkQ c hc).2.2) (Nat.le_refl _) h0 r⟩
def zkR : List ByteArray := [⟨#[123]⟩, ⟨#[125]⟩, ⟨#[40]⟩, ⟨#[41]⟩, ⟨#[91]⟩, ⟨#[93]⟩, ⟨#[44]⟩, ⟨#[124]⟩, ⟨#[124, 61]⟩, ⟨#[124, 126]⟩, ⟨#[33, 61]⟩, ⟨#[33, 126]⟩, ⟨#[61]⟩, ⟨#[61, 126]⟩, ⟨#[61, 61]⟩, ⟨#[62]⟩, ⟨#[62, 61]⟩, ⟨#[60]⟩, ⟨#[60, 61]⟩, ⟨#[43]⟩, ⟨#[45]⟩, ⟨#[42]⟩, ⟨#[47]⟩]
def zoe : List (ByteArray × Int) := [(⟨#[48]⟩, 3), (⟨#[55]⟩, 3), (⟨#[49, 46, 50, 53]⟩, 3), (⟨#[53, 109]⟩, 4), (⟨#[49, 104, 51, 48, 109]⟩, 4), (⟨#[50, 53, 48, 109, 115]⟩, 4), (⟨#[53, 75, 66]⟩, 5), (⟨#[49, 46, 53, 77, 105, 66]⟩, 5)]
theorem zkh : ∀ x ∈ zkR, ∀ c ∈ ([32, 9, 10, 13] : List UInt8), zb4 (x.data.toList ++ [c]) = (6, x, x.data.toList.length, true) := by decide +kernel
theorem zlC : ∀ x ∈ zoe, ∀ c ∈ ([32, 9, 10, 13] : List UInt8), zb4 (x.1.data.toList ++ [c]) = (x.2, x.1, x.1.data.toList.length, true) := by decide +kernel
theorem zg0 (a m : Int) (h1 : 0 < m) (h2 : m ≤ 100) : ∃ t, P.zaK.f a m = some t ∧ 0 ≤ t ∧ t < m := by
 unfold P.zaK.f
 have e1 := Int.tmod_lt_of_pos a h1
 have e2 : -m < Int.tmod a m := Int.lt_tmod_of_pos a h1
 generalize Int.tmod a m = t at e1 e2
 rw [if_neg (by omega), if_neg (by omega)]
 split
 ·exact ⟨_, rfl, by unfold wrap64; omega, by unfold wrap64; omega⟩
 ·exact ⟨_, rfl, by omega, e1⟩
def zjd (x : ByteArray) (k : Int) (t : ByteArray) : Prop := x.size ≤ 300 ∧ ∀ b : List UInt8, (∀ c ∈ b, zbA c = true) → zgW ⟨b, x.data.toList, k, t⟩
def zq2 (l : List UInt8) : Prop := ∀ c ∈ l, 97 ≤ c.toNat ∧ c.toNat ≤ 122
theorem zof : ∀ c : Fin 256, 97 ≤ c.val ∧ c.val ≤ 122 → zd5 (UInt8.ofNat c.val) = true ∧ zdj (UInt8.ofNat c.val) = true := by decide +kernel
theorem zoF (c : UInt8) (h : 97 ≤ c.toNat ∧ c.toNat ≤ 122) : zd5 c = true ∧ zdj c = true := by
 have := zof ⟨c.toNat, c.toNat_lt⟩
 simp only [UInt8.ofNat_toNat] at this
 exact this h
theorem zm2 (l : List UInt8) (h : zq2 l) (hl : l.length ≤ 12) : zjd (mkB (l ++ [95])) 1 (mkB (l ++ [95])) := by
 refine ⟨by show (l ++ [95]).length ≤ 300; simp; omega, fun b hb => zm0 b (l ++ [95]) hb (by simp) ?_ fun c hc => ?_⟩
 ·cases l with
  | nil => decide
  | cons a l => exact (zoF a (h a (by simp))).1
 ·rcases List.mem_append.1 hc with hc | hc
  ·exact (zoF c (h c hc)).2
  ·rw [List.mem_singleton.1 hc]; decide
theorem zm3 (s : ByteArray) (h : s.size ≤ 60) : zjd ⟨(zcu s).toArray⟩ 2 s := by
 refine ⟨?_, fun b hb => zm1 b s hb⟩
 show (zcu s).length ≤ 300
 have hk := zjc (zbG s) (kinds s)
 rw [flat] at hk
 have hz := Lib.size_eq s
 unfold zcu
 simp only [List.length_append, List.length_cons, List.length_nil]
 omega
theorem zm4 (x : ByteArray) (h : x ∈ zkR) : zjd x 6 x := by
 have hs : ∀ y ∈ zkR, y.size ≤ 300 ∧ y.data.toList ≠ [] := by decide +kernel
 exact ⟨(hs x h).1, fun b hb => zgZ b x.data.toList 6 x hb (hs x h).2 (zkh x h)⟩
theorem zog (x : ByteArray × Int) (h : x ∈ zoe) : zjd x.1 x.2 x.1 := by
 have hs : ∀ y ∈ zoe, y.1.size ≤ 300 ∧ y.1.data.toList ≠ [] := by decide +kernel
 exact ⟨(hs x h).1, fun b hb => zgZ b x.1.data.toList x.2 x.1 hb (hs x h).2 (zlC x h)⟩
theorem zoh (n : Int) (h0 : 0 ≤ n) (h1 : n < 256) : ∃ c : UInt8, strOfNums [(97 + Int.tmod n 26) % 256] = mkB [c] ∧ 97 ≤ c.toNat ∧ c.toNat ≤ 122 := by
 have e1 := Int.tmod_lt_of_pos n (show (0 : Int) < 26 by decide)
 have e0 : 0 ≤ Int.tmod n 26 := Int.tmod_nonneg _ h0
 generalize Int.tmod n 26 = m at e0 e1
 obtain ⟨j, rfl⟩ : ∃ j : Nat, m = (j : Int) := ⟨m.toNat, by omega⟩
 refine ⟨UInt8.ofNat (97 + j), ?_, ?_, ?_⟩
 ·have : ((97 + (j : Int)) % 256).toNat = 97 + j := by omega
  unfold strOfNums
  simp only [List.map_cons, List.map_nil, this]
 ·rw [UInt8.toNat_ofNat']; omega
 ·rw [UInt8.toNat_ofNat']; omega
theorem zf7 (s : ByteArray) (i : Nat) (h : i < s.size) : 0 ≤ bt s (i : Int) ∧ bt s (i : Int) < 256 := by
 have h' : ((i : Int)).toNat < s.size := by rw [Int.toNat_natCast]; exact h
 rw [← zdE s (i : Int) h']
 have := (s[((i : Int)).toNat]'h').toNat_lt
 omega
theorem zrs (i : Nat) (h : i ≤ 13) : wrap64 ((i : Int) + 1) = ((i + 1 : Nat) : Int) := by unfold wrap64; omega
theorem zdn (a b : List UInt8) : mkB a ++ mkB b = mkB (a ++ b) := by
 refine ByteArray.ext (Array.toList_inj.1 ?_)
 simp
theorem zis (a b : Int) (s : ByteArray) : ∀ (d i k : Nat) (acc : List UInt8), 12 - i = d → i ≤ 12 → zq2 acc → acc.length ≤ i → d < k → ∃ l, zq2 l ∧ l.length ≤ 12 ∧ P.zaj.l0 k (mkB acc) (i : Int) a s b = some (mkB (l ++ [95]), 1, mkB (l ++ [95]), 0)
 | d, i, 0, acc, hd, hi, hl, hn, hk => by omega
 | d, i, k + 1, acc, hd, hi, hl, hn, hk => by
  have hsz : (mkB acc).size + 1 ≤ 9223372036854775807 := by show acc.length + 1 ≤ _; omega
  have hend : (if (mkB acc).size + 1 ≤ 9223372036854775807 then (some (mkB acc ++ (⟨#[95]⟩ : ByteArray), (1 : Int), mkB acc ++ (⟨#[95]⟩ : ByteArray), (0 : Int))) else none) = some (mkB (acc ++ [95]), 1, mkB (acc ++ [95]), 0) := by
   refine (if_pos hsz).trans ?_
   rw [show mkB acc ++ (⟨#[95]⟩ : ByteArray) = mkB (acc ++ [95]) from zdn acc [95]]
  rw [P.zaj.l0]
  by_cases h1 : i < s.size
  ·by_cases h2 : i < 12
   ·obtain ⟨b0, b1⟩ := zf7 s i h1
    obtain ⟨c, hc, hc1, hc2⟩ := zoh (bt s (i : Int)) b0 b1
    have g1 : (i : Int) < (s.size : Int) := by omega
    have g2 : (i : Int) < 12 := by omega
    have g3 : (0 : Int) ≤ (i : Int) := by omega
    have g4 : (mkB acc).size + (mkB [c]).size ≤ 9223372036854775807 := by show acc.length + 1 ≤ _; omega
    refine ⟨?w, ?h1, ?h2, (if_pos g1).trans ((if_pos g2).trans ((if_pos g3).trans ?h3))⟩
    rotate_left 3
    ·simp only [Option.bind_some]
     rw [hc]
     refine (if_pos g4).trans ?_
     rw [zdn, zrs i (by omega)]
     exact (Classical.choose_spec (zis a b s (d - 1) (i + 1) k (acc ++ [c]) (by omega) (by omega) (fun x hx => (List.mem_append.1 hx).elim (hl x) (fun hx => by rw [List.mem_singleton.1 hx]; exact ⟨hc1, hc2⟩)) (by simp; omega) (by omega))).2.2
    ·exact (Classical.choose_spec (zis a b s (d - 1) (i + 1) k (acc ++ [c]) (by omega) (by omega) (fun x hx => (List.mem_append.1 hx).elim (hl x) (fun hx => by rw [List.mem_singleton.1 hx]; exact ⟨hc1, hc2⟩)) (by simp; omega) (by omega))).1
    ·exact (Classical.choose_spec (zis a b s (d - 1) (i + 1) k (acc ++ [c]) (by omega) (by omega) (fun x hx => (List.mem_append.1 hx).elim (hl x) (fun hx => by rw [List.mem_singleton.1 hx]; exact ⟨hc1, hc2⟩)) (by simp; omega) (by omega))).2.1
   ·exact ⟨acc, hl, by omega, (if_pos (by omega)).trans ((if_neg (by omega)).trans hend)⟩
  ·exact ⟨acc, hl, by omega, (if_neg (by omega)).trans hend⟩
theorem zoi : ∀ i : Fin 8, zoe[i.val]? = some (zdd ByteArray.empty [(⟨#[48]⟩ : ByteArray), (⟨#[55]⟩ : ByteArray), (⟨#[49, 46, 50, 53]⟩ : ByteArray), (⟨#[53, 109]⟩ : ByteArray), (⟨#[49, 104, 51, 48, 109]⟩ : ByteArray), (⟨#[50, 53, 48, 109, 115]⟩ : ByteArray), (⟨#[53, 75, 66]⟩ : ByteArray), (⟨#[49, 46, 53, 77, 105, 66]⟩ : ByteArray)] (i.val : Int), rd [3, 3, 3, 4, 4, 4, 5, 5] (i.val : Int)) := by decide +kernel
theorem zm5 : ∀ i : Fin 23, zkR[i.val]? = some (zdd ByteArray.empty [(⟨#[123]⟩ : ByteArray), (⟨#[125]⟩ : ByteArray), (⟨#[40]⟩ : ByteArray), (⟨#[41]⟩ : ByteArray), (⟨#[91]⟩ : ByteArray), (⟨#[93]⟩ : ByteArray), (⟨#[44]⟩ : ByteArray), (⟨#[124]⟩ : ByteArray), (⟨#[124, 61]⟩ : ByteArray), (⟨#[124, 126]⟩ : ByteArray), (⟨#[33, 61]⟩ : ByteArray), (⟨#[33, 126]⟩ : ByteArray), (⟨#[61]⟩ : ByteArray), (⟨#[61, 126]⟩ : ByteArray), (⟨#[61, 61]⟩ : ByteArray), (⟨#[62]⟩ : ByteArray), (⟨#[62, 61]⟩ : ByteArray), (⟨#[60]⟩ : ByteArray), (⟨#[60, 61]⟩ : ByteArray), (⟨#[43]⟩ : ByteArray), (⟨#[45]⟩ : ByteArray), (⟨#[42]⟩ : ByteArray), (⟨#[47]⟩ : ByteArray)] (i.val : Int)) := by decide +kernel
theorem zm6 (k : Nat) (hk : 30 ≤ k) (a : Int) (s : ByteArray) (n : Int) : ∃ x kd t, P.zaj.f k a s n = some (x, kd, t, 0) ∧ zjd x kd t := by
 unfold P.zaj.f
 obtain ⟨t6, h6, h60, h64⟩ := zg0 a 4 (by decide) (by decide)
 simp only [Option.bind_some, h6]
 by_cases c0 : t6 = 0
 ·rw [if_pos c0]
  obtain ⟨l, hl, hn, hf⟩ := zis a n s 12 0 k [] rfl (by decide) (fun c hc => absurd hc (by simp)) (Nat.le_refl _) (by omega)
  exact ⟨_, _, _, hf, zm2 l hl hn⟩
 ·rw [if_neg c0]
  by_cases c1 : t6 = 1
  ·rw [if_pos c1]
   have hm : 0 ≤ mn (s.size : Int) 60 ∧ mn (s.size : Int) 60 ≤ (s.size : Int) ∧ mn (s.size : Int) 60 ≤ 60 := by unfold mn; split <;> omega
   obtain ⟨u, hu⟩ : ∃ u, s.extract 0 (mn (s.size : Int) 60).toNat = u := ⟨_, rfl⟩
   have hus : u.size ≤ 60 := by rw [← hu, ByteArray.size_extract]; omega
   refine ⟨⟨(zcu u).toArray⟩, 2, u, (if_pos hm.1).trans ((if_pos hm.2.1).trans ?_), zm3 u hus⟩
   rw [hu]
   unfold P.zcj.f
   rw [if_pos (by omega)]
   rfl
  ·rw [if_neg c1]
   by_cases c2 : t6 = 2
   ·rw [if_pos c2]
    obtain ⟨t, ht, t0, t8⟩ := zg0 n (([(⟨#[48]⟩ : ByteArray), (⟨#[55]⟩ : ByteArray), (⟨#[49, 46, 50, 53]⟩ : ByteArray), (⟨#[53, 109]⟩ : ByteArray), (⟨#[49, 104, 51, 48, 109]⟩ : ByteArray), (⟨#[50, 53, 48, 109, 115]⟩ : ByteArray), (⟨#[53, 75, 66]⟩ : ByteArray), (⟨#[49, 46, 53, 77, 105, 66]⟩ : ByteArray)].length : Nat) : Int) (by decide) (by decide)
    obtain ⟨i, rfl⟩ : ∃ i : Nat, t = (i : Int) := ⟨t.toNat, by omega⟩
    have hi8 : (i : Int) < 8 := t8
    have hg := List.mem_of_getElem? (zoi ⟨i, by omega⟩)
    refine ⟨_, _, _, ?_, zog _ hg⟩
    rw [ht]
    simp only [Option.bind_some]
    exact (if_pos t0).trans ((if_pos t8).trans (if_pos t8))
   ·rw [if_neg c2]
    obtain ⟨t, ht, t0, t8⟩ := zg0 n (([(⟨#[123]⟩ : ByteArray), (⟨#[125]⟩ : ByteArray), (⟨#[40]⟩ : ByteArray), (⟨#[41]⟩ : ByteArray), (⟨#[91]⟩ : ByteArray), (⟨#[93]⟩ : ByteArray), (⟨#[44]⟩ : ByteArray), (⟨#[124]⟩ : ByteArray), (⟨#[124, 61]⟩ : ByteArray), (⟨#[124, 126]⟩ : ByteArray), (⟨#[33, 61]⟩ : ByteArray), (⟨#[33, 126]⟩ : ByteArray), (⟨#[61]⟩ : ByteArray), (⟨#[61, 126]⟩ : ByteArray), (⟨#[61, 61]⟩ : ByteArray), (⟨#[62]⟩ : ByteArray), (⟨#[62, 61]⟩ : ByteArray), (⟨#[60]⟩ : ByteArray), (⟨#[60, 61]⟩ : ByteArray), (⟨#[43]⟩ : ByteArray), (⟨#[45]⟩ : ByteArray), (⟨#[42]⟩ : ByteArray), (⟨#[47]⟩ : ByteArray)].length : Nat) : Int) (by decide) (by decide)
    obtain ⟨i, rfl⟩ : ∃ i : Nat, t = (i : Int) := ⟨t.toNat, by omega⟩
    have hi23 : (i : Int) < 23 := t8
    have hg := List.mem_of_getElem? (zm5 ⟨i, by omega⟩)
    refine ⟨_, _, _, ?_, zm4 _ hg⟩
    rw [ht]
    simp only [Option.bind_some]
    exact (if_pos t0).trans (if_pos t8)
def tkS (t : Tk) : S32 := ⟨t.1, t.2.1, (t.2.2 : Int)⟩
theorem zlD (s : ByteArray) (a b : Nat) : (s.extract a b).data.toList = (s.data.toList.take b).drop a := by
 rw [ByteArray.data_extract, Array.toList_extract, List.extract_eq_take_drop, List.drop_take]
theorem zki (s : ByteArray) (a : Nat) : (s.extract a s.size).data.toList = s.data.toList.drop a := by
 rw [zlD, Lib.size_eq, List.take_length]
theorem zf1 (s : ByteArray) (a : Nat) : (s.extract a s.size).size = s.size - a := by
 rw [Lib.size_eq, zki, List.length_drop, ← Lib.size_eq]
theorem zkS (s : ByteArray) (a : Nat) (hs : s.size ≤ 4096) : P.zbF.f (s.extract a s.size) = some ((runN zbA (s.data.toList.drop a) : Nat) : Int) := by
 unfold P.zbF.f
 rw [if_pos (by rw [zf1]; omega), zki]
theorem zoj (s : ByteArray) (a : Nat) (hs : s.size ≤ 4096) (ha : a < s.size) {v : Int × ByteArray × Nat × Bool} (hv : zb4 (s.data.toList.drop a) = v) : P.zc8.f (s.extract a s.size) = some (v.1, v.2.1, 0, (v.2.2.1 : Int), v.2.2.2) := by
 unfold P.zc8.f
 rw [if_pos (by rw [zf1]; omega), zki, hv]
theorem zrt (a : Int) (h0 : -9223372036854775808 ≤ a) (h1 : a < 9223372036854775808) : wrap64 a = a := by unfold wrap64; omega
theorem zre (a b : Nat) (h : a + b ≤ 20000) : wrap64 ((a : Int) + (b : Int)) = ((a + b : Nat) : Int) := by rw [zrt _ (by omega) (by omega)]; omega
theorem zje (s : ByteArray) (hs : s.size ≤ 4096) : ∀ (f a : Nat) (acc : List S32), a ≤ s.size → s.size - a < f → acc.length + (s.size - a) ≤ 5000 →
  P.zaF.l0 f s acc ((a + runN zbA (s.data.toList.drop a) : Nat) : Int) = match zhj f a (s.data.toList.drop a) with | .inl b => some ([], (b : Int), 200) | .inr ts => some (acc ++ ts.map tkS, 0, 0)
 | 0, a, acc, ha, hf, hc => by omega
 | f + 1, a, acc, ha, hf, hc => by
  obtain ⟨b, hb⟩ : ∃ b, runN zbA (s.data.toList.drop a) = b := ⟨_, rfl⟩
  have hble := zdc zbA (s.data.toList.drop a)
  rw [hb, List.length_drop, ← Lib.size_eq] at hble
  rw [hb, zhj, hb, P.zaF.l0, List.drop_drop]
  by_cases he : a + b < s.size
  ·have hne : s.data.toList.drop (a + b) ≠ [] := fun h => by
    have := List.drop_eq_nil_iff.1 h
    rw [← Lib.size_eq] at this
    omega
   obtain ⟨⟨k, x, n, ok⟩, hv⟩ : ∃ v, zb4 (s.data.toList.drop (a + b)) = v := ⟨_, rfl⟩
   rw [if_pos (by omega), if_pos (by omega), if_pos (by omega), Int.toNat_natCast, zoj s (a + b) hs he hv, if_neg hne, hv]
   simp only [Option.bind_some]
   cases ok with
   | false => rfl
   | true =>
    have hok := zi3 hv
    have hpos := hok.pos
    have hle := hok.le
    rw [List.length_drop, ← Lib.size_eq] at hle
    simp only [if_true]
    have hrle := zdc zbA (s.data.toList.drop (a + b + n))
    rw [List.length_drop, ← Lib.size_eq] at hrle
    have g1 : acc.length < 4398046511104 := by omega
    have g2 : (0 : Int) ≤ ((a + b + n : Nat) : Int) := by omega
    have g3 : ((a + b + n : Nat) : Int) ≤ (s.size : Int) := by omega
    have g4 : a + b + n ≤ 20000 := by omega
    have g5 : a + b + n + runN zbA (s.data.toList.drop (a + b + n)) ≤ 20000 := by omega
    have hIH := zje s hs f (a + b + n) (acc ++ [(⟨k, x, ((a + b : Nat) : Int)⟩ : S32)]) (by omega) (by omega) (by rw [List.length_append]; simp only [List.length_cons, List.length_nil]; omega)
    have hw : wrap64 (((a + b : Nat) : Int) + (n : Int)) = ((a + b + n : Nat) : Int) := zre (a + b) n g4
    have hw2 : wrap64 (((a + b + n : Nat) : Int) + ((runN zbA (s.data.toList.drop (a + b + n)) : Nat) : Int)) = ((a + b + n + runN zbA (s.data.toList.drop (a + b + n)) : Nat) : Int) := zre (a + b + n) (runN zbA (s.data.toList.drop (a + b + n))) g5
    rw [hw]
    refine (if_pos g1).trans ((if_pos g2).trans ((if_pos g3).trans ?_))
    rw [Int.toNat_natCast, zkS s _ hs]
    simp only [Option.bind_some]
    rw [hw2, hIH, List.drop_drop]
    cases zhj f (a + b + n) (s.data.toList.drop (a + b + n)) with
    | inl c => rfl
    | inr ts => simp [tkS]
  ·have hz : s.data.toList.drop (a + b) = [] := List.drop_eq_nil_iff.2 (by rw [← Lib.size_eq]; omega)
   rw [if_neg (by omega), if_pos hz]
   simp
theorem zok (s : ByteArray) (hs : s.size ≤ 4096) (k : Nat) (hk : s.size < k) : P.zaF.f k s = match zhj k 0 s.data.toList with | .inl b => some ([], (b : Int), 200) | .inr ts => some (ts.map tkS, 0, 0) := by
 unfold P.zaF.f
 rw [if_neg (by omega)]
 have h0 := zkS s 0 hs
 rw [show s.extract 0 s.size = s from ByteArray.extract_zero_size, List.drop_zero] at h0
 have h1 := zje s hs k 0 [] (Nat.zero_le _) (by omega) (by simp; omega)
 rw [List.drop_zero, Nat.zero_add] at h1
 rw [h0]
 simp only [Option.bind_some]
 rw [h1]
 cases zhj k 0 s.data.toList with
 | inl b => rfl
 | inr ts => rfl
theorem zlE (s : ByteArray) (hs : 4096 < s.size) (k : Nat) : P.zaF.f k s = some ([], 0, 5) := by
 unfold P.zaF.f
 rw [if_pos (by omega)]
end Go.Proofs.YtioofhilohmfbaaGreatDoor
end
section
open Go Go.RowKit PrintWords
namespace Go.Proofs.YtioofhilohmfbaaGreatDoor
theorem zm7 : P.zaJ.f 60 = some true := by decide +kernel
theorem zkT : ∀ d : Nat, P.zaJ.f (60 + d) = some true
 | 0 => zm7
 | d + 1 => P.zaJ.mono (60 + d) true (zkT d)
theorem zhP (k : Nat) (hk : 60 ≤ k) : P.zaJ.f k = some true := by
 obtain ⟨d, rfl⟩ : ∃ d, k = 60 + d := ⟨k - 60, by omega⟩
 exact zkT d
end Go.Proofs.YtioofhilohmfbaaGreatDoor
end
section
open Go Go.RowKit Go.Lib PrintWords PrintLast PrintMore YtioofhilohmfbaaGreatDoor.P
namespace Go.Proofs.YtioofhilohmfbaaGreatDoor
def tkR (t : Tk) : S33 := ⟨t.1, t.2.1, (t.2.2 : Int)⟩
theorem zqC (ts : List Tk) (i : Nat) (t : Tk) (h : ts[i]? = some t) : zbV (ts.map tkR) (i : Int) = tkR t := by
 unfold zbV
 rw [List.getD_eq_getElem?_getD, Int.toNat_natCast, List.getElem?_map, h]; rfl
theorem zoG (ts : List Tk) (i : Nat) (t : Tk) (h : ts[i]? = some t) : zbB (ts.map tkS) (i : Int) = tkS t := by
 unfold zbB
 rw [List.getD_eq_getElem?_getD, Int.toNat_natCast, List.getElem?_map, h]; rfl
theorem zlF (i : Nat) (h : i ≤ 20000) : wrap64 ((i : Int) + 1) = ((i + 1 : Nat) : Int) := by unfold wrap64; omega
theorem zjf (ts : List Tk) (hs : ts.length ≤ 100) : ∀ (d i k : Nat), ts.length - i = d → i ≤ ts.length → d < k → P.zan.l0 k (ts.map tkS) ((ts.take i).map tkR) (i : Int) = some (ts.map tkR)
 | d, i, 0, h1, h2, h3 => by omega
 | d, i, k + 1, h1, h2, h3 => by
  rw [P.zan.l0]
  by_cases hi : i < ts.length
  ·obtain ⟨t, ht⟩ : ∃ t, ts[i]? = some t := ⟨_, List.getElem?_eq_getElem hi⟩
   have g1 : (i : Int) < ((ts.map tkS).length : Int) := by rw [List.length_map]; omega
   have g2 : (0 : Int) ≤ (i : Int) := by omega
   have g3 : ((ts.take i).map tkR).length < 4398046511104 := by rw [List.length_map, List.length_take]; omega
   refine (if_pos g1).trans ((if_pos g2).trans ((if_pos g3).trans ?_))
   have e : (ts.take i).map tkR ++ [(⟨(tkS t).f0, (tkS t).f1, (tkS t).f2⟩ : S33)] = (ts.take (i + 1)).map tkR := by
    rw [List.take_add_one, ht]; simp [tkR, tkS]
   rw [zoG ts i t ht, e, zlF i (by omega)]
   exact zjf ts hs (d - 1) (i + 1) k (by omega) (by omega) (by omega)
  ·have hl : i = ts.length := by omega
   refine (if_neg (by rw [List.length_map]; omega)).trans ?_
   rw [hl, List.take_length]
theorem zjg (ts : List Tk) (hs : ts.length ≤ 100) : ∀ (d i k : Nat), ts.length - i = d → i ≤ ts.length → d < k → P.zat.l0 k (ts.map tkR) (ts.map tkR) (i : Int) = some true
 | d, i, 0, h1, h2, h3 => by omega
 | d, i, k + 1, h1, h2, h3 => by
  rw [P.zat.l0]
  by_cases hi : i < ts.length
  ·have g1 : (i : Int) < ((ts.map tkR).length : Int) := by rw [List.length_map]; omega
   have g2 : (0 : Int) ≤ (i : Int) := by omega
   refine (if_pos g1).trans ((if_pos g2).trans ((if_pos g1).trans ((if_pos rfl).trans ((if_pos rfl).trans ?_))))
   rw [zlF i (by omega)]
   exact zjg ts hs (d - 1) (i + 1) k (by omega) (by omega) (by omega)
  ·exact if_neg (by rw [List.length_map]; omega)
theorem zm8 (ts : List Tk) (hs : ts.length ≤ 100) : ∀ (d i k : Nat), ts.length - i = d → i ≤ ts.length → d + 60 < k → P.zac.l2 k (ts.map tkR) (ts.map tkS) (i : Int) = some true
 | d, i, 0, h1, h2, h3 => by omega
 | d, i, k + 1, h1, h2, h3 => by
  rw [P.zac.l2]
  by_cases hi : i < ts.length
  ·obtain ⟨t, ht⟩ : ∃ t, ts[i]? = some t := ⟨_, List.getElem?_eq_getElem hi⟩
   have g1 : (i : Int) < ((ts.map tkR).length : Int) := by rw [List.length_map]; omega
   have g2 : (0 : Int) ≤ (i : Int) := by omega
   have g3 : (i : Int) < ((ts.map tkS).length : Int) := by rw [List.length_map]; omega
   refine (if_pos g1).trans ((if_pos g2).trans ((if_pos g3).trans ((if_pos ?_).trans ?_)))
   ·rw [zoG ts i t ht, zqC ts i t ht]; rfl
   ·rw [zlF i (by omega)]
    exact zm8 ts hs (d - 1) (i + 1) k (by omega) (by omega) (by omega)
  ·refine (if_neg (by rw [List.length_map]; omega)).trans ?_
   rw [zhP k (by omega)]
   rfl
theorem zfN : ∀ (its : List Item) (a : Nat), (zcb a its).length = its.length
 | [], _ => rfl
 | it :: its, a => by rw [zcb, List.length_cons, zfN its, List.length_cons]
theorem zhQ (a b : List Item) : zbz (a ++ b) = zbz a ++ zbz b := by unfold zbz; rw [List.flatMap_append]
theorem zhR : ∀ (a : List Item) (n : Nat) (b : List Item), zcb n (a ++ b) = zcb n a ++ zcb (n + (zbz a).length) b
 | [], n, b => by simp [zcb, zbz]
 | it :: a, n, b => by
  rw [List.cons_append, zcb, zhR a, zcb, List.cons_append]
  congr 2
  congr 1
  unfold zbz
  rw [List.flatMap_cons, List.length_append, List.length_append]
  omega
theorem zkU (l0 : List S51) (l1 : List Int) (x7 : Int) (its : List Item) (ho : ∀ it ∈ its, zgW it) (hb : ∀ it ∈ its, it.b ≠ []) (hn : its.length ≤ 40) (hz : (zbz its).length ≤ 13000) (k : Nat) (hk : 14000 ≤ k) :
  P.zac.j1 k l0 l1 (mkB (zbz its)) ((zcb 0 its).map tkR) x7 false = some true := by
 obtain ⟨k, rfl⟩ : ∃ j, k = j + 1 := ⟨k - 1, by omega⟩
 have hsz : (mkB (zbz its)).size = (zbz its).length := Lib.size_eq _
 have hcat : mkB (zbz its) ++ (⟨#[10]⟩ : ByteArray) = mkB (zbz its ++ [10]) := zdn _ [10]
 have hsz2 : (mkB (zbz its ++ [10])).size = (zbz its).length + 1 := by rw [Lib.size_eq]; simp
 rw [P.zac.j1]
 refine (if_neg Bool.false_ne_true).trans ((if_pos (by omega)).trans ?_)
 rw [hcat, hsz]
 by_cases hbig : 4096 ≤ (zbz its).length
 ·rw [zlE _ (by omega) k]
  simp only [Option.bind_some]
  refine (if_pos (by omega)).trans ((if_pos trivial).trans ?_)
  rw [zhP k (by omega)]
  rfl
 ·have hcut : zqG (zbz its ++ [10]) 0 (zcb 0 its) := zi8 (zbz its ++ [10]) its 0 [10] ho hb (by simp) (by decide) rfl
  have htk : zhj k 0 (mkB (zbz its ++ [10])).data.toList = .inr (zcb 0 its) := by
   have := zkL (zbz its ++ [10]) (zcb 0 its) k 0 (Nat.zero_le _) (by simp; omega) hcut
   rw [List.drop_zero] at this
   exact this
  rw [zok _ (by omega) k (by omega), htk]
  simp only [Option.bind_some]
  have hl : (zcb 0 its).length ≤ 100 := by rw [zfN]; omega
  refine (if_neg (by omega)).trans ((if_pos trivial).trans ((if_pos trivial).trans ?_))
  have e1 : P.zan.f k ((zcb 0 its).map tkS) = some ((zcb 0 its).map tkR) := zjf (zcb 0 its) hl _ 0 k rfl (Nat.zero_le _) (by omega)
  have e2 : P.zat.f k ((zcb 0 its).map tkR) ((zcb 0 its).map tkR) = some true := (if_pos rfl).trans (zjg (zcb 0 its) hl _ 0 k rfl (Nat.zero_le _) (by omega))
  rw [e1]
  simp only [Option.bind_some]
  rw [e2]
  simp only [Option.bind_some]
  obtain ⟨k, rfl⟩ : ∃ j, k = j + 1 := ⟨k - 1, by omega⟩
  rw [P.zac.j3]
  refine (if_neg (by decide)).trans ?_
  exact zm8 (zcb 0 its) hl _ 0 k rfl (Nat.zero_le _) (by omega)
theorem zlG : ∀ m : Fin 4, ∃ c : UInt8, zbA c = true ∧ strOfNums [rd [32, 9, 10, 13] (m.val : Int)] = mkB [c] := fun m =>
 match m with
 | 0 => ⟨32, by decide, rfl⟩
 | 1 => ⟨9, by decide, rfl⟩
 | 2 => ⟨10, by decide, rfl⟩
 | 3 => ⟨13, by decide, rfl⟩
theorem zg1 (l0 : List S51) (l1 : List Int) (hl1 : ∀ x ∈ l1, 0 ≤ x ∧ x < 256) (x6 : List S33) (x7 : Int) : ∀ (d j k : Nat) (s : List UInt8), min 5 l1.length - j = d → j ≤ min 5 l1.length → s.length + d ≤ 13000 → ∃ b : List UInt8, (∀ c ∈ b, zbA c = true) ∧ b.length = d ∧
  P.zac.l1 (k + d) l0 l1 (mkB s) x6 x7 (j : Int) = P.zac.l1 k l0 l1 (mkB (s ++ b)) x6 x7 ((min 5 l1.length : Nat) : Int)
 | 0, j, k, s, h1, h2, hs => ⟨[], by simp, rfl, by rw [List.append_nil, show j = min 5 l1.length by omega]; rfl⟩
 | d + 1, j, k, s, h1, h2, hs => by
  have hj : j < l1.length := by omega
  obtain ⟨x, hx⟩ : ∃ x, l1[j]? = some x := ⟨_, List.getElem?_eq_getElem hj⟩
  have hrd : rd l1 (j : Int) = x := by unfold rd; rw [List.getD_eq_getElem?_getD, Int.toNat_natCast, hx]; rfl
  obtain ⟨hx0, hx1⟩ := hl1 x (List.mem_of_getElem? hx)
  have hm0 : 0 ≤ Int.tmod x 4 := Int.tmod_nonneg _ hx0
  have hm1 : Int.tmod x 4 < 4 := Int.tmod_lt_of_pos _ (by decide)
  obtain ⟨m, hm⟩ : ∃ m : Nat, Int.tmod x 4 = (m : Int) := ⟨(Int.tmod x 4).toNat, by omega⟩
  obtain ⟨c, hc, hcs⟩ := zlG ⟨m, by omega⟩
  have hsz : (mkB s).size = s.length := Lib.size_eq _
  have hsc : (mkB [c]).size = 1 := rfl
  obtain ⟨b, hb, hbl, hbe⟩ := zg1 l0 l1 hl1 x6 x7 d (j + 1) k (s ++ [c]) (by omega) (by omega) (by simp; omega)
  refine ⟨c :: b, fun y hy => ?_, by rw [List.length_cons, hbl], ?_⟩
  ·rcases List.mem_cons.1 hy with rfl | hy
   ·exact hc
   ·exact hb y hy
  ·rw [show k + (d + 1) = (k + d) + 1 by omega, P.zac.l1, hrd, hm]
   have g1 : (j : Int) < (l1.length : Int) := by omega
   have g2 : (j : Int) < 5 := by omega
   have g3 : (0 : Int) ≤ (j : Int) := by omega
   have g4 : (0 : Int) ≤ (m : Int) := by omega
   refine (if_pos g1).trans ((if_pos g2).trans ?_)
   simp only [Option.bind_some]
   have g5 : (m : Int) < (([32, 9, 10, 13] : List Int).length : Int) := by show (m : Int) < 4; omega
   refine (if_pos g3).trans ((if_pos g4).trans ((if_pos g5).trans ?_))
   have hcs' : strOfNums [rd [32, 9, 10, 13] (m : Int)] = mkB [c] := hcs
   rw [hcs']
   refine (if_pos (by rw [hsz, hsc]; omega)).trans ?_
   rw [zdn, zlF j (by omega), hbe, List.append_assoc]
   rfl
theorem zkV (l0 : List S51) (l1 : List Int) (hl1 : ∀ x ∈ l1, 0 ≤ x ∧ x < 256) : ∀ (d : Nat) (its : List Item) (k : Nat), 40 - its.length = d → its.length ≤ 40 → its.length ≤ l0.length → (∀ it ∈ its, zgW it) → (∀ it ∈ its, it.b ≠ []) → (zbz its).length ≤ 310 * its.length → 14000 + 20 * d < k →
  P.zac.l0 k l0 l1 (mkB (zbz its)) ((zcb 0 its).map tkR) (its.length : Int) = some true
 | d, its, 0, hd, hn, hm, ho, hb, hz, hk => by omega
 | d, its, 1, hd, hn, hm, ho, hb, hz, hk => by omega
 | 0, its, k + 2, hd, hn, hm, ho, hb, hz, hk => by
  have hend := zkU l0 l1 (its.length : Int) its ho hb hn (by omega) (k + 1) (by omega)
  rw [P.zac.l0, show decide ((its.length : Int) < 40) = false from decide_eq_false (by omega)]
  split <;> exact hend
 | d + 1, its, k + 2, hd, hn, hm, ho, hb, hz, hk => by
  have hend := zkU l0 l1 (its.length : Int) its ho hb hn (by omega) (k + 1) (by omega)
  rw [P.zac.l0]
  by_cases hi : its.length < l0.length
  ·rw [show decide ((its.length : Int) < 40) = true from decide_eq_true (by omega)]
   refine (if_pos (by omega)).trans ?_
   rw [P.zac.j1]
   refine (if_pos rfl).trans ?_
   obtain ⟨e, he⟩ : ∃ e, min 5 l1.length = e := ⟨_, rfl⟩
   have he5 : e ≤ 5 := by omega
   obtain ⟨b, hbb, hbl, hbe⟩ := zg1 l0 l1 hl1 ((zcb 0 its).map tkR) (its.length : Int) e 0 (k - e) (zbz its) (by omega) (by omega) (by omega)
   rw [show k - e + e = k by omega] at hbe
   obtain ⟨q, hq⟩ : ∃ q, k - e = q + 1 := ⟨k - e - 1, by omega⟩
   refine (hbe.trans ?_)
   rw [hq, he]
   obtain ⟨x, kd, t, hw, hx300, hxok⟩ := zm6 q (by omega) (zcI l0 (its.length : Int)).f0 (zcI l0 (its.length : Int)).f1 (zcI l0 (its.length : Int)).f2
   have hbb2 : ∀ c ∈ b ++ [32], zbA c = true := fun c hc => (List.mem_append.1 hc).elim (hbb c) (fun hc => by rw [List.mem_singleton.1 hc]; decide)
   have hit := hxok (b ++ [32]) hbb2
   have hxl : x.data.toList.length ≤ 300 := by rw [← Lib.size_eq]; exact hx300
   have hB1 : zbz [⟨b ++ [32], x.data.toList, kd, t⟩] = b ++ [32] ++ x.data.toList := by unfold zbz; simp
   have hIH := zkV l0 l1 hl1 d (its ++ [⟨b ++ [32], x.data.toList, kd, t⟩]) q (by simp; omega) (by simp; omega) (by simp; omega)
    (fun y hy => (List.mem_append.1 hy).elim (ho y) (fun hy => by rw [List.mem_singleton.1 hy]; exact hit))
    (fun y hy => (List.mem_append.1 hy).elim (hb y) (fun hy => by rw [List.mem_singleton.1 hy]; simp))
    (by rw [zhQ, hB1, List.length_append, List.length_append, List.length_append, List.length_append]; simp only [List.length_cons, List.length_nil]; omega) (by omega)
   rw [zhQ, hB1, zhR, Nat.zero_add, List.map_append, List.length_append] at hIH
   have hS : (mkB (zbz its ++ b)).size = (zbz its).length + b.length := by rw [Lib.size_eq]; simp
   have hxB : x = mkB x.data.toList := rfl
   have hc1 : mkB (zbz its ++ b) ++ (⟨#[32]⟩ : ByteArray) = mkB (zbz its ++ b ++ [32]) := zdn _ [32]
   have hc1s : (mkB (zbz its ++ b ++ [32])).size = (zbz its).length + b.length + 1 := by rw [Lib.size_eq]; simp; omega
   have hc2 : mkB (zbz its ++ b ++ [32]) ++ x = mkB (zbz its ++ (b ++ [32] ++ x.data.toList)) := by
    have := zdn (zbz its ++ b ++ [32]) x.data.toList
    rw [← hxB] at this
    rw [this]
    simp
   have hTl : ((zcb 0 its).map tkR).length < 4398046511104 := by rw [List.length_map, zfN]; omega
   have hT : (zcb (zbz its).length [⟨b ++ [32], x.data.toList, kd, t⟩]).map tkR = [(⟨kd, t, wrap64 (((mkB (zbz its ++ b)).size : Int) + 1)⟩ : S33)] := by
    rw [hS, zlF _ (by omega), zcb, zcb]
    simp only [List.map_cons, List.map_nil, tkR, List.length_append, List.length_cons, List.length_nil]
    rfl
   rw [P.zac.l1]
   have hfin : (if 0 ≤ (its.length : Int) then (if (its.length : Int) < (l0.length : Int) then ((P.zaj.f q ((zcI l0 (its.length : Int)).f0) ((zcI l0 (its.length : Int)).f1) ((zcI l0 (its.length : Int)).f2)).bind fun bt10 => (if (mkB (zbz its ++ b)).size + 1 ≤ 9223372036854775807 then (if (mkB (zbz its ++ b) ++ (⟨#[32]⟩ : ByteArray)).size + bt10.1.size ≤ 9223372036854775807 then (if ((zcb 0 its).map tkR).length < 4398046511104 then (P.zac.l0 q l0 l1 ((mkB (zbz its ++ b) ++ (⟨#[32]⟩ : ByteArray)) ++ bt10.1) ((zcb 0 its).map tkR ++ [(⟨bt10.2.1, bt10.2.2.1, wrap64 (((mkB (zbz its ++ b)).size : Int) + 1)⟩ : S33)]) (wrap64 ((its.length : Int) + 1))) else (none)) else (none)) else (none))) else (none)) else (none)) = some true := by
    refine (if_pos (by omega)).trans ((if_pos (by omega)).trans ?_)
    rw [hw]
    simp only [Option.bind_some]
    refine (if_pos (by omega)).trans ?_
    rw [hc1, hc1s, hc2, ← hT, zlF _ (by omega)]
    exact (if_pos (by omega)).trans ((if_pos hTl).trans hIH)
   by_cases he2 : (e : Int) < (l1.length : Int)
   ·exact (if_pos he2).trans ((if_neg (by omega)).trans hfin)
   ·exact (if_neg he2).trans hfin
  ·rw [if_neg (by omega)]
   exact hend
theorem zm9 (l0 : List S51) (l1 : List Int) (hl1 : ∀ x ∈ l1, 0 ≤ x ∧ x < 256) : P.zac.f 20000 l0 l1 = some true :=
 zkV l0 l1 hl1 40 [] 20000 rfl (by decide) (Nat.zero_le _) (by simp) (by simp) (by simp [zbz]) (by decide)
end Go.Proofs.YtioofhilohmfbaaGreatDoor
end
section
open Go
namespace Go.Proofs.YtioofhilohmfbaaGreatDoor
theorem zjh : P.zac.Pure := fun l0 l1 h => ⟨20000, zm9 l0 l1 h⟩
theorem lexBack_card : Rows.LexBackCardSaid := lexBack.zpP zjh
#print axioms lexBack_card
end Go.Proofs.YtioofhilohmfbaaGreatDoor
end
