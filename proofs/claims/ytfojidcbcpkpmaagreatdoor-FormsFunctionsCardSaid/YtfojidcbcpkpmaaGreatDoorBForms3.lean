/- FormsFunctions: functions go from left to right; upper and lower, twice, are once, and undo one another; trim, too; what quote and len make. Its tied card, of all texts. -/
import Derived.Test.YtfojidcbcpkpmaaGreatDoorBForms2
section
namespace Go.Proofs.YtfojidcbcpkpmaaGreatDoor.P
open Go.RowKit Go.Proofs.YtfojidcbcpkpmaaGreatDoorW.PrintWords Go.Proofs.YtfojidcbcpkpmaaGreatDoorW.PrintLast Go.Proofs.YtfojidcbcpkpmaaGreatDoorW.PrintMore
attribute [local go_sem] max2_int min2_int max_two min_two max_three min_three max_four min_four leq_str
set_option linter.unusedVariables false
set_option linter.unusedSimpArgs false
theorem itoa_cut {a : ByteArray} {n : Nat} {t : ByteArray} (h : strconv_Itoa.f ((a.extract 0 n).size : Int) = some t) : strconv_Itoa.f ((min n a.size : Nat) : Int) = some t := by
  rw [ByteArray.size_extract, Nat.sub_zero] at h; exact h
/-! ### driftnetlaw19_FormsFunctions: function 3 -/
def driftnetlaw19_FormsFunctions.j0 : Nat → ByteArray → ByteArray → ByteArray → ByteArray → ByteArray → ByteArray → ByteArray → ByteArray → ByteArray → ByteArray → ByteArray → Int → Bool → Option (Bool)
  | 0, _, _, _, _, _, _, _, _, _, _, _, _, _ => none
  | k + 1, x0, x4, x6, x8, x10, x12, x14, x18, x20, x22, x24, x25, x26 => if x4.toList = x6.toList then (if x8.toList = x10.toList then (if x12.toList = x14.toList then (if x26 = true then ((strings_Contains.f x0 x12).bind fun t27 => (if t27 = true then (if x25 = 0 then (if x24.toList = x0.toList then ((strconv_Itoa.f (x0.size : Int)).bind fun t28 => (if x18.toList = t28.toList then (if x20.toList = x4.toList then ((quote_Quote.f x12).bind fun t29 => ((strconv_Itoa.f (t29.size : Int)).bind fun t30 => (if x22.toList = t30.toList then (some ((x4.size : Int) == (x0.size : Int))) else (some false)))) else (some false)) else (some false))) else (some false)) else (some false)) else (some false))) else (some false)) else (some false)) else (some false)) else (some false)
def driftnetlaw19_FormsFunctions.f (k : Nat) (a0 : ByteArray) : Option (Bool) := (driftnetlaw19_works.f).bind fun t1 => (if t1 = true then (if 0 ≤ (mn (a0.size : Int) 300) then (if (mn (a0.size : Int) 300) ≤ (a0.size : Int) then ((some (([(⟨(⟨#[97]⟩ : ByteArray), a0.extract 0 ((mn (a0.size : Int) 300) : Int).toNat⟩ : S24)] : List (S24)) : List (S24))).bind fun y2 => ((driftnetlaw19_run.f (⟨#[123, 123, 46, 97, 124, 117, 112, 112, 101, 114, 125, 125]⟩ : ByteArray) y2 (⟨#[]⟩ : ByteArray)).bind fun bt5 => ((driftnetlaw19_run.f (⟨#[123, 123, 46, 97, 124, 117, 112, 112, 101, 114, 124, 108, 111, 119, 101, 114, 124, 117, 112, 112, 101, 114, 125, 125]⟩ : ByteArray) y2 (⟨#[]⟩ : ByteArray)).bind fun bt7 => ((driftnetlaw19_run.f (⟨#[123, 123, 46, 97, 32, 124, 32, 108, 111, 119, 101, 114, 32, 124, 32, 108, 111, 119, 101, 114, 125, 125]⟩ : ByteArray) y2 (⟨#[]⟩ : ByteArray)).bind fun bt9 => ((driftnetlaw19_run.f (⟨#[123, 123, 46, 97, 124, 108, 111, 119, 101, 114, 125, 125]⟩ : ByteArray) y2 (⟨#[]⟩ : ByteArray)).bind fun bt11 => ((driftnetlaw19_run.f (⟨#[123, 123, 46, 97, 124, 116, 114, 105, 109, 125, 125]⟩ : ByteArray) y2 (⟨#[]⟩ : ByteArray)).bind fun bt13 => ((driftnetlaw19_run.f (⟨#[123, 123, 46, 97, 124, 116, 114, 105, 109, 124, 116, 114, 105, 109, 125, 125]⟩ : ByteArray) y2 (⟨#[]⟩ : ByteArray)).bind fun bt15 => ((driftnetlaw19_run.f (⟨#[123, 123, 46, 97, 124, 113, 117, 111, 116, 101, 125, 125]⟩ : ByteArray) y2 (⟨#[]⟩ : ByteArray)).bind fun bt17 => ((driftnetlaw19_run.f (⟨#[123, 123, 46, 97, 124, 108, 101, 110, 125, 125]⟩ : ByteArray) y2 (⟨#[]⟩ : ByteArray)).bind fun bt19 => ((driftnetlaw19_run.f (⟨#[123, 123, 95, 95, 108, 105, 110, 101, 95, 95, 124, 117, 112, 112, 101, 114, 125, 125]⟩ : ByteArray) ([] : List (S24)) (a0.extract 0 ((mn (a0.size : Int) 300) : Int).toNat)).bind fun bt21 => ((driftnetlaw19_run.f (⟨#[123, 123, 46, 97, 124, 116, 114, 105, 109, 124, 113, 117, 111, 116, 101, 124, 108, 101, 110, 125, 125]⟩ : ByteArray) y2 (⟨#[]⟩ : ByteArray)).bind fun bt23 => ((quote_Unquote.f bt17.1).bind fun bt25 => (if bt13.1.toList = ([] : List UInt8) then (driftnetlaw19_FormsFunctions.j0 k (a0.extract 0 ((mn (a0.size : Int) 300) : Int).toNat) bt5.1 bt7.1 bt9.1 bt11.1 bt13.1 bt15.1 bt19.1 bt21.1 bt23.1 bt25.1 bt25.2 true) else (if 0 < (bt13.1.size : Int) then (if (bt bt13.1 0) > 32 then (if 0 ≤ (wrap64 ((bt13.1.size : Int) - 1)) then (if (wrap64 ((bt13.1.size : Int) - 1)) < (bt13.1.size : Int) then (driftnetlaw19_FormsFunctions.j0 k (a0.extract 0 ((mn (a0.size : Int) 300) : Int).toNat) bt5.1 bt7.1 bt9.1 bt11.1 bt13.1 bt15.1 bt19.1 bt21.1 bt23.1 bt25.1 bt25.2 (decide ((bt bt13.1 (wrap64 ((bt13.1.size : Int) - 1))) > 32))) else (none)) else (none)) else (driftnetlaw19_FormsFunctions.j0 k (a0.extract 0 ((mn (a0.size : Int) 300) : Int).toNat) bt5.1 bt7.1 bt9.1 bt11.1 bt13.1 bt15.1 bt19.1 bt21.1 bt23.1 bt25.1 bt25.2 false)) else (none))))))))))))))) else (none)) else (none)) else (some false))
theorem driftnetlaw19_FormsFunctions.mono_l : ∀ k, (∀ y0 y1 y2 y3 y4 y5 y6 y7 y8 y9 y10 y11 y12, LeO (driftnetlaw19_FormsFunctions.j0 k y0 y1 y2 y3 y4 y5 y6 y7 y8 y9 y10 y11 y12) (driftnetlaw19_FormsFunctions.j0 (k + 1) y0 y1 y2 y3 y4 y5 y6 y7 y8 y9 y10 y11 y12))
  | 0 => fun _ _ _ _ _ _ _ _ _ _ _ _ _ r h => by simp [driftnetlaw19_FormsFunctions.j0] at h
  | k + 1 => by
    have ih0 := driftnetlaw19_FormsFunctions.mono_l k
    · intro y0 y1 y2 y3 y4 y5 y6 y7 y8 y9 y10 y11 y12
      unfold driftnetlaw19_FormsFunctions.j0
      repeat' first
      | (with_reducible exact ih0 _ _ _ _ _ _ _ _ _ _ _ _ _)
      | (with_reducible exact LeO.refl _)
      | (with_reducible exact LeO.none _)
      | (with_reducible refine LeO.ite ?_ ?_)
      | (with_reducible refine LeO.bind ?_ (fun _ => ?_))
      | exact ih0 _ _ _ _ _ _ _ _ _ _ _ _ _
      | exact LeO.none _
      | refine LeO.ite ?_ ?_
      | refine LeO.bind ?_ (fun _ => ?_)
theorem driftnetlaw19_FormsFunctions.mono : ∀ a0 k, LeO (driftnetlaw19_FormsFunctions.f k a0) (driftnetlaw19_FormsFunctions.f (k + 1) a0) := by
  intro a0 k
  have ih0 := driftnetlaw19_FormsFunctions.mono_l k
  unfold driftnetlaw19_FormsFunctions.f
  repeat' first
      | (with_reducible exact ih0 _ _ _ _ _ _ _ _ _ _ _ _ _)
      | (with_reducible exact LeO.refl _)
      | (with_reducible exact LeO.none _)
      | (with_reducible refine LeO.ite ?_ ?_)
      | (with_reducible refine LeO.bind ?_ (fun _ => ?_))
      | exact ih0 _ _ _ _ _ _ _ _ _ _ _ _ _
      | exact LeO.none _
      | refine LeO.ite ?_ ?_
      | refine LeO.bind ?_ (fun _ => ?_)
set_option maxHeartbeats 8000000 in
set_option maxRecDepth 100000 in
theorem driftnetlaw19_FormsFunctions.calls (k : Nat) (a0 : ByteArray) (r : Bool) (w : World) (hG : Aside0 (G w)) (h : driftnetlaw19_FormsFunctions.f k a0 = some r) :
    Calls Tryz.prog 3 #[.string a0] w fun e w' => e = .returned (.bool r) ∧ Below w.heap.size w w' := by
  have hu24 := Tryz.underlying24
  have HB := Aside0.mk (Below.refl w.heap.size w)
  have H : ((driftnetlaw19_works.f).bind fun t1 => (if t1 = true then (if 0 ≤ (mn (a0.size : Int) 300) then (if (mn (a0.size : Int) 300) ≤ (a0.size : Int) then ((some (([(⟨(⟨#[97]⟩ : ByteArray), a0.extract 0 ((mn (a0.size : Int) 300) : Int).toNat⟩ : S24)] : List (S24)) : List (S24))).bind fun y2 => ((driftnetlaw19_run.f (⟨#[123, 123, 46, 97, 124, 117, 112, 112, 101, 114, 125, 125]⟩ : ByteArray) y2 (⟨#[]⟩ : ByteArray)).bind fun bt5 => ((driftnetlaw19_run.f (⟨#[123, 123, 46, 97, 124, 117, 112, 112, 101, 114, 124, 108, 111, 119, 101, 114, 124, 117, 112, 112, 101, 114, 125, 125]⟩ : ByteArray) y2 (⟨#[]⟩ : ByteArray)).bind fun bt7 => ((driftnetlaw19_run.f (⟨#[123, 123, 46, 97, 32, 124, 32, 108, 111, 119, 101, 114, 32, 124, 32, 108, 111, 119, 101, 114, 125, 125]⟩ : ByteArray) y2 (⟨#[]⟩ : ByteArray)).bind fun bt9 => ((driftnetlaw19_run.f (⟨#[123, 123, 46, 97, 124, 108, 111, 119, 101, 114, 125, 125]⟩ : ByteArray) y2 (⟨#[]⟩ : ByteArray)).bind fun bt11 => ((driftnetlaw19_run.f (⟨#[123, 123, 46, 97, 124, 116, 114, 105, 109, 125, 125]⟩ : ByteArray) y2 (⟨#[]⟩ : ByteArray)).bind fun bt13 => ((driftnetlaw19_run.f (⟨#[123, 123, 46, 97, 124, 116, 114, 105, 109, 124, 116, 114, 105, 109, 125, 125]⟩ : ByteArray) y2 (⟨#[]⟩ : ByteArray)).bind fun bt15 => ((driftnetlaw19_run.f (⟨#[123, 123, 46, 97, 124, 113, 117, 111, 116, 101, 125, 125]⟩ : ByteArray) y2 (⟨#[]⟩ : ByteArray)).bind fun bt17 => ((driftnetlaw19_run.f (⟨#[123, 123, 46, 97, 124, 108, 101, 110, 125, 125]⟩ : ByteArray) y2 (⟨#[]⟩ : ByteArray)).bind fun bt19 => ((driftnetlaw19_run.f (⟨#[123, 123, 95, 95, 108, 105, 110, 101, 95, 95, 124, 117, 112, 112, 101, 114, 125, 125]⟩ : ByteArray) ([] : List (S24)) (a0.extract 0 ((mn (a0.size : Int) 300) : Int).toNat)).bind fun bt21 => ((driftnetlaw19_run.f (⟨#[123, 123, 46, 97, 124, 116, 114, 105, 109, 124, 113, 117, 111, 116, 101, 124, 108, 101, 110, 125, 125]⟩ : ByteArray) y2 (⟨#[]⟩ : ByteArray)).bind fun bt23 => ((quote_Unquote.f bt17.1).bind fun bt25 => (if bt13.1.toList = ([] : List UInt8) then (driftnetlaw19_FormsFunctions.j0 k (a0.extract 0 ((mn (a0.size : Int) 300) : Int).toNat) bt5.1 bt7.1 bt9.1 bt11.1 bt13.1 bt15.1 bt19.1 bt21.1 bt23.1 bt25.1 bt25.2 true) else (if 0 < (bt13.1.size : Int) then (if (bt bt13.1 0) > 32 then (if 0 ≤ (wrap64 ((bt13.1.size : Int) - 1)) then (if (wrap64 ((bt13.1.size : Int) - 1)) < (bt13.1.size : Int) then (driftnetlaw19_FormsFunctions.j0 k (a0.extract 0 ((mn (a0.size : Int) 300) : Int).toNat) bt5.1 bt7.1 bt9.1 bt11.1 bt13.1 bt15.1 bt19.1 bt21.1 bt23.1 bt25.1 bt25.2 (decide ((bt bt13.1 (wrap64 ((bt13.1.size : Int) - 1))) > 32))) else (none)) else (none)) else (driftnetlaw19_FormsFunctions.j0 k (a0.extract 0 ((mn (a0.size : Int) 300) : Int).toNat) bt5.1 bt7.1 bt9.1 bt11.1 bt13.1 bt15.1 bt19.1 bt21.1 bt23.1 bt25.1 bt25.2 false)) else (none))))))))))))))) else (none)) else (none)) else (some false))) = some r := h
  clear h
  replace H := Option.bind_eq_some_iff.mp H
  obtain ⟨t1, A20, H⟩ := H
  replace H : (if t1 = true then (if 0 ≤ (mn (a0.size : Int) 300) then (if (mn (a0.size : Int) 300) ≤ (a0.size : Int) then ((some (([(⟨(⟨#[97]⟩ : ByteArray), a0.extract 0 ((mn (a0.size : Int) 300) : Int).toNat⟩ : S24)] : List (S24)) : List (S24))).bind fun y2 => ((driftnetlaw19_run.f (⟨#[123, 123, 46, 97, 124, 117, 112, 112, 101, 114, 125, 125]⟩ : ByteArray) y2 (⟨#[]⟩ : ByteArray)).bind fun bt5 => ((driftnetlaw19_run.f (⟨#[123, 123, 46, 97, 124, 117, 112, 112, 101, 114, 124, 108, 111, 119, 101, 114, 124, 117, 112, 112, 101, 114, 125, 125]⟩ : ByteArray) y2 (⟨#[]⟩ : ByteArray)).bind fun bt7 => ((driftnetlaw19_run.f (⟨#[123, 123, 46, 97, 32, 124, 32, 108, 111, 119, 101, 114, 32, 124, 32, 108, 111, 119, 101, 114, 125, 125]⟩ : ByteArray) y2 (⟨#[]⟩ : ByteArray)).bind fun bt9 => ((driftnetlaw19_run.f (⟨#[123, 123, 46, 97, 124, 108, 111, 119, 101, 114, 125, 125]⟩ : ByteArray) y2 (⟨#[]⟩ : ByteArray)).bind fun bt11 => ((driftnetlaw19_run.f (⟨#[123, 123, 46, 97, 124, 116, 114, 105, 109, 125, 125]⟩ : ByteArray) y2 (⟨#[]⟩ : ByteArray)).bind fun bt13 => ((driftnetlaw19_run.f (⟨#[123, 123, 46, 97, 124, 116, 114, 105, 109, 124, 116, 114, 105, 109, 125, 125]⟩ : ByteArray) y2 (⟨#[]⟩ : ByteArray)).bind fun bt15 => ((driftnetlaw19_run.f (⟨#[123, 123, 46, 97, 124, 113, 117, 111, 116, 101, 125, 125]⟩ : ByteArray) y2 (⟨#[]⟩ : ByteArray)).bind fun bt17 => ((driftnetlaw19_run.f (⟨#[123, 123, 46, 97, 124, 108, 101, 110, 125, 125]⟩ : ByteArray) y2 (⟨#[]⟩ : ByteArray)).bind fun bt19 => ((driftnetlaw19_run.f (⟨#[123, 123, 95, 95, 108, 105, 110, 101, 95, 95, 124, 117, 112, 112, 101, 114, 125, 125]⟩ : ByteArray) ([] : List (S24)) (a0.extract 0 ((mn (a0.size : Int) 300) : Int).toNat)).bind fun bt21 => ((driftnetlaw19_run.f (⟨#[123, 123, 46, 97, 124, 116, 114, 105, 109, 124, 113, 117, 111, 116, 101, 124, 108, 101, 110, 125, 125]⟩ : ByteArray) y2 (⟨#[]⟩ : ByteArray)).bind fun bt23 => ((quote_Unquote.f bt17.1).bind fun bt25 => (if bt13.1.toList = ([] : List UInt8) then (driftnetlaw19_FormsFunctions.j0 k (a0.extract 0 ((mn (a0.size : Int) 300) : Int).toNat) bt5.1 bt7.1 bt9.1 bt11.1 bt13.1 bt15.1 bt19.1 bt21.1 bt23.1 bt25.1 bt25.2 true) else (if 0 < (bt13.1.size : Int) then (if (bt bt13.1 0) > 32 then (if 0 ≤ (wrap64 ((bt13.1.size : Int) - 1)) then (if (wrap64 ((bt13.1.size : Int) - 1)) < (bt13.1.size : Int) then (driftnetlaw19_FormsFunctions.j0 k (a0.extract 0 ((mn (a0.size : Int) 300) : Int).toNat) bt5.1 bt7.1 bt9.1 bt11.1 bt13.1 bt15.1 bt19.1 bt21.1 bt23.1 bt25.1 bt25.2 (decide ((bt bt13.1 (wrap64 ((bt13.1.size : Int) - 1))) > 32))) else (none)) else (none)) else (driftnetlaw19_FormsFunctions.j0 k (a0.extract 0 ((mn (a0.size : Int) 300) : Int).toNat) bt5.1 bt7.1 bt9.1 bt11.1 bt13.1 bt15.1 bt19.1 bt21.1 bt23.1 bt25.1 bt25.2 false)) else (none))))))))))))))) else (none)) else (none)) else (some false)) = some r := H
  have A2 := Aside0.mk A20
  clear A20
  by_cases c3 : t1 = true
  · subst c3
    have H1 : (if 0 ≤ (mn (a0.size : Int) 300) then (if (mn (a0.size : Int) 300) ≤ (a0.size : Int) then ((some (([(⟨(⟨#[97]⟩ : ByteArray), a0.extract 0 ((mn (a0.size : Int) 300) : Int).toNat⟩ : S24)] : List (S24)) : List (S24))).bind fun y2 => ((driftnetlaw19_run.f (⟨#[123, 123, 46, 97, 124, 117, 112, 112, 101, 114, 125, 125]⟩ : ByteArray) y2 (⟨#[]⟩ : ByteArray)).bind fun bt5 => ((driftnetlaw19_run.f (⟨#[123, 123, 46, 97, 124, 117, 112, 112, 101, 114, 124, 108, 111, 119, 101, 114, 124, 117, 112, 112, 101, 114, 125, 125]⟩ : ByteArray) y2 (⟨#[]⟩ : ByteArray)).bind fun bt7 => ((driftnetlaw19_run.f (⟨#[123, 123, 46, 97, 32, 124, 32, 108, 111, 119, 101, 114, 32, 124, 32, 108, 111, 119, 101, 114, 125, 125]⟩ : ByteArray) y2 (⟨#[]⟩ : ByteArray)).bind fun bt9 => ((driftnetlaw19_run.f (⟨#[123, 123, 46, 97, 124, 108, 111, 119, 101, 114, 125, 125]⟩ : ByteArray) y2 (⟨#[]⟩ : ByteArray)).bind fun bt11 => ((driftnetlaw19_run.f (⟨#[123, 123, 46, 97, 124, 116, 114, 105, 109, 125, 125]⟩ : ByteArray) y2 (⟨#[]⟩ : ByteArray)).bind fun bt13 => ((driftnetlaw19_run.f (⟨#[123, 123, 46, 97, 124, 116, 114, 105, 109, 124, 116, 114, 105, 109, 125, 125]⟩ : ByteArray) y2 (⟨#[]⟩ : ByteArray)).bind fun bt15 => ((driftnetlaw19_run.f (⟨#[123, 123, 46, 97, 124, 113, 117, 111, 116, 101, 125, 125]⟩ : ByteArray) y2 (⟨#[]⟩ : ByteArray)).bind fun bt17 => ((driftnetlaw19_run.f (⟨#[123, 123, 46, 97, 124, 108, 101, 110, 125, 125]⟩ : ByteArray) y2 (⟨#[]⟩ : ByteArray)).bind fun bt19 => ((driftnetlaw19_run.f (⟨#[123, 123, 95, 95, 108, 105, 110, 101, 95, 95, 124, 117, 112, 112, 101, 114, 125, 125]⟩ : ByteArray) ([] : List (S24)) (a0.extract 0 ((mn (a0.size : Int) 300) : Int).toNat)).bind fun bt21 => ((driftnetlaw19_run.f (⟨#[123, 123, 46, 97, 124, 116, 114, 105, 109, 124, 113, 117, 111, 116, 101, 124, 108, 101, 110, 125, 125]⟩ : ByteArray) y2 (⟨#[]⟩ : ByteArray)).bind fun bt23 => ((quote_Unquote.f bt17.1).bind fun bt25 => (if bt13.1.toList = ([] : List UInt8) then (driftnetlaw19_FormsFunctions.j0 k (a0.extract 0 ((mn (a0.size : Int) 300) : Int).toNat) bt5.1 bt7.1 bt9.1 bt11.1 bt13.1 bt15.1 bt19.1 bt21.1 bt23.1 bt25.1 bt25.2 true) else (if 0 < (bt13.1.size : Int) then (if (bt bt13.1 0) > 32 then (if 0 ≤ (wrap64 ((bt13.1.size : Int) - 1)) then (if (wrap64 ((bt13.1.size : Int) - 1)) < (bt13.1.size : Int) then (driftnetlaw19_FormsFunctions.j0 k (a0.extract 0 ((mn (a0.size : Int) 300) : Int).toNat) bt5.1 bt7.1 bt9.1 bt11.1 bt13.1 bt15.1 bt19.1 bt21.1 bt23.1 bt25.1 bt25.2 (decide ((bt bt13.1 (wrap64 ((bt13.1.size : Int) - 1))) > 32))) else (none)) else (none)) else (driftnetlaw19_FormsFunctions.j0 k (a0.extract 0 ((mn (a0.size : Int) 300) : Int).toNat) bt5.1 bt7.1 bt9.1 bt11.1 bt13.1 bt15.1 bt19.1 bt21.1 bt23.1 bt25.1 bt25.2 false)) else (none))))))))))))))) else (none)) else (none)) = some r := by rw [if_pos rfl] at H; exact H
    clear H
    have H := H1
    clear H1
    obtain ⟨ji4, hji4⟩ : ∃ j_ : Int, (mn (a0.size : Int) 300) = j_ := ⟨_, rfl⟩
    replace H : (if 0 ≤ (ji4) then (if (ji4) ≤ (a0.size : Int) then ((some (([(⟨(⟨#[97]⟩ : ByteArray), a0.extract 0 ((ji4) : Int).toNat⟩ : S24)] : List (S24)) : List (S24))).bind fun y2 => ((driftnetlaw19_run.f (⟨#[123, 123, 46, 97, 124, 117, 112, 112, 101, 114, 125, 125]⟩ : ByteArray) y2 (⟨#[]⟩ : ByteArray)).bind fun bt5 => ((driftnetlaw19_run.f (⟨#[123, 123, 46, 97, 124, 117, 112, 112, 101, 114, 124, 108, 111, 119, 101, 114, 124, 117, 112, 112, 101, 114, 125, 125]⟩ : ByteArray) y2 (⟨#[]⟩ : ByteArray)).bind fun bt7 => ((driftnetlaw19_run.f (⟨#[123, 123, 46, 97, 32, 124, 32, 108, 111, 119, 101, 114, 32, 124, 32, 108, 111, 119, 101, 114, 125, 125]⟩ : ByteArray) y2 (⟨#[]⟩ : ByteArray)).bind fun bt9 => ((driftnetlaw19_run.f (⟨#[123, 123, 46, 97, 124, 108, 111, 119, 101, 114, 125, 125]⟩ : ByteArray) y2 (⟨#[]⟩ : ByteArray)).bind fun bt11 => ((driftnetlaw19_run.f (⟨#[123, 123, 46, 97, 124, 116, 114, 105, 109, 125, 125]⟩ : ByteArray) y2 (⟨#[]⟩ : ByteArray)).bind fun bt13 => ((driftnetlaw19_run.f (⟨#[123, 123, 46, 97, 124, 116, 114, 105, 109, 124, 116, 114, 105, 109, 125, 125]⟩ : ByteArray) y2 (⟨#[]⟩ : ByteArray)).bind fun bt15 => ((driftnetlaw19_run.f (⟨#[123, 123, 46, 97, 124, 113, 117, 111, 116, 101, 125, 125]⟩ : ByteArray) y2 (⟨#[]⟩ : ByteArray)).bind fun bt17 => ((driftnetlaw19_run.f (⟨#[123, 123, 46, 97, 124, 108, 101, 110, 125, 125]⟩ : ByteArray) y2 (⟨#[]⟩ : ByteArray)).bind fun bt19 => ((driftnetlaw19_run.f (⟨#[123, 123, 95, 95, 108, 105, 110, 101, 95, 95, 124, 117, 112, 112, 101, 114, 125, 125]⟩ : ByteArray) ([] : List (S24)) (a0.extract 0 ((ji4) : Int).toNat)).bind fun bt21 => ((driftnetlaw19_run.f (⟨#[123, 123, 46, 97, 124, 116, 114, 105, 109, 124, 113, 117, 111, 116, 101, 124, 108, 101, 110, 125, 125]⟩ : ByteArray) y2 (⟨#[]⟩ : ByteArray)).bind fun bt23 => ((quote_Unquote.f bt17.1).bind fun bt25 => (if bt13.1.toList = ([] : List UInt8) then (driftnetlaw19_FormsFunctions.j0 k (a0.extract 0 ((ji4) : Int).toNat) bt5.1 bt7.1 bt9.1 bt11.1 bt13.1 bt15.1 bt19.1 bt21.1 bt23.1 bt25.1 bt25.2 true) else (if 0 < (bt13.1.size : Int) then (if (bt bt13.1 0) > 32 then (if 0 ≤ (wrap64 ((bt13.1.size : Int) - 1)) then (if (wrap64 ((bt13.1.size : Int) - 1)) < (bt13.1.size : Int) then (driftnetlaw19_FormsFunctions.j0 k (a0.extract 0 ((ji4) : Int).toNat) bt5.1 bt7.1 bt9.1 bt11.1 bt13.1 bt15.1 bt19.1 bt21.1 bt23.1 bt25.1 bt25.2 (decide ((bt bt13.1 (wrap64 ((bt13.1.size : Int) - 1))) > 32))) else (none)) else (none)) else (driftnetlaw19_FormsFunctions.j0 k (a0.extract 0 ((ji4) : Int).toNat) bt5.1 bt7.1 bt9.1 bt11.1 bt13.1 bt15.1 bt19.1 bt21.1 bt23.1 bt25.1 bt25.2 false)) else (none))))))))))))))) else (none)) else (none)) = some r := by first | (rw [hji4] at H; exact H) | (simp only [hji4] at H ⊢; exact H)
    (try rw [hji4] at A2)
    (try (have hji4h : ji4 ≤ 300 := by (rw [← hji4]; unfold mn; (repeat' split) <;> omega)))
    (try (have hji4g : ji4 ≤ 64 := by omega))
    (try (have hji4l : 0 ≤ ji4 := by (rw [← hji4]; unfold mn; (repeat' split) <;> omega)))
    (try (have hji4m : 0 ≤ ji4 := by omega))
    have hji4_ : (if 300 < (a0.size : Int) then 300 else (a0.size : Int)) = ji4 := hji4
    by_cases c5 : 0 ≤ (ji4)
    · rw [if_pos c5] at H
      have c5b0 := eq_true c5
      have c5b1 : decide (0 ≤ (ji4)) = true := decide_eq_true c5
      clear c5
      by_cases c6 : (ji4) ≤ (a0.size : Int)
      · rw [if_pos c6] at H
        have c6b0 := eq_true c6
        have c6b1 : decide ((ji4) ≤ (a0.size : Int)) = true := decide_eq_true c6
        clear c6
        obtain ⟨y2, hy2⟩ : ∃ y_ : List (S24), y_ = (([(⟨(⟨#[97]⟩ : ByteArray), a0.extract 0 ((ji4) : Int).toNat⟩ : S24)] : List (S24))) := ⟨_, rfl⟩
        replace H : ((driftnetlaw19_run.f (⟨#[123, 123, 46, 97, 124, 117, 112, 112, 101, 114, 125, 125]⟩ : ByteArray) y2 (⟨#[]⟩ : ByteArray)).bind fun bt5 => ((driftnetlaw19_run.f (⟨#[123, 123, 46, 97, 124, 117, 112, 112, 101, 114, 124, 108, 111, 119, 101, 114, 124, 117, 112, 112, 101, 114, 125, 125]⟩ : ByteArray) y2 (⟨#[]⟩ : ByteArray)).bind fun bt7 => ((driftnetlaw19_run.f (⟨#[123, 123, 46, 97, 32, 124, 32, 108, 111, 119, 101, 114, 32, 124, 32, 108, 111, 119, 101, 114, 125, 125]⟩ : ByteArray) y2 (⟨#[]⟩ : ByteArray)).bind fun bt9 => ((driftnetlaw19_run.f (⟨#[123, 123, 46, 97, 124, 108, 111, 119, 101, 114, 125, 125]⟩ : ByteArray) y2 (⟨#[]⟩ : ByteArray)).bind fun bt11 => ((driftnetlaw19_run.f (⟨#[123, 123, 46, 97, 124, 116, 114, 105, 109, 125, 125]⟩ : ByteArray) y2 (⟨#[]⟩ : ByteArray)).bind fun bt13 => ((driftnetlaw19_run.f (⟨#[123, 123, 46, 97, 124, 116, 114, 105, 109, 124, 116, 114, 105, 109, 125, 125]⟩ : ByteArray) y2 (⟨#[]⟩ : ByteArray)).bind fun bt15 => ((driftnetlaw19_run.f (⟨#[123, 123, 46, 97, 124, 113, 117, 111, 116, 101, 125, 125]⟩ : ByteArray) y2 (⟨#[]⟩ : ByteArray)).bind fun bt17 => ((driftnetlaw19_run.f (⟨#[123, 123, 46, 97, 124, 108, 101, 110, 125, 125]⟩ : ByteArray) y2 (⟨#[]⟩ : ByteArray)).bind fun bt19 => ((driftnetlaw19_run.f (⟨#[123, 123, 95, 95, 108, 105, 110, 101, 95, 95, 124, 117, 112, 112, 101, 114, 125, 125]⟩ : ByteArray) ([] : List (S24)) (a0.extract 0 ((ji4) : Int).toNat)).bind fun bt21 => ((driftnetlaw19_run.f (⟨#[123, 123, 46, 97, 124, 116, 114, 105, 109, 124, 113, 117, 111, 116, 101, 124, 108, 101, 110, 125, 125]⟩ : ByteArray) y2 (⟨#[]⟩ : ByteArray)).bind fun bt23 => ((quote_Unquote.f bt17.1).bind fun bt25 => (if bt13.1.toList = ([] : List UInt8) then (driftnetlaw19_FormsFunctions.j0 k (a0.extract 0 ((ji4) : Int).toNat) bt5.1 bt7.1 bt9.1 bt11.1 bt13.1 bt15.1 bt19.1 bt21.1 bt23.1 bt25.1 bt25.2 true) else (if 0 < (bt13.1.size : Int) then (if (bt bt13.1 0) > 32 then (if 0 ≤ (wrap64 ((bt13.1.size : Int) - 1)) then (if (wrap64 ((bt13.1.size : Int) - 1)) < (bt13.1.size : Int) then (driftnetlaw19_FormsFunctions.j0 k (a0.extract 0 ((ji4) : Int).toNat) bt5.1 bt7.1 bt9.1 bt11.1 bt13.1 bt15.1 bt19.1 bt21.1 bt23.1 bt25.1 bt25.2 (decide ((bt bt13.1 (wrap64 ((bt13.1.size : Int) - 1))) > 32))) else (none)) else (none)) else (driftnetlaw19_FormsFunctions.j0 k (a0.extract 0 ((ji4) : Int).toNat) bt5.1 bt7.1 bt9.1 bt11.1 bt13.1 bt15.1 bt19.1 bt21.1 bt23.1 bt25.1 bt25.2 false)) else (none)))))))))))))) = some r := by first | (rw [hy2]; with_reducible exact H) | (have H2_ := (Option.bind_some _ _).symm.trans H; rw [hy2]; with_reducible exact H2_) | (have H2_ := (Option.bind_some _ _).symm.trans H; with_reducible exact H2_) | with_reducible exact H | (rw [hy2]; exact H) | exact H
        have Ny2 := Aside0.mk hy2
        clear hy2
        replace H := Option.bind_eq_some_iff.mp H
        obtain ⟨⟨t5, t6⟩, A70, H⟩ := H
        replace H : ((driftnetlaw19_run.f (⟨#[123, 123, 46, 97, 124, 117, 112, 112, 101, 114, 124, 108, 111, 119, 101, 114, 124, 117, 112, 112, 101, 114, 125, 125]⟩ : ByteArray) y2 (⟨#[]⟩ : ByteArray)).bind fun bt7 => ((driftnetlaw19_run.f (⟨#[123, 123, 46, 97, 32, 124, 32, 108, 111, 119, 101, 114, 32, 124, 32, 108, 111, 119, 101, 114, 125, 125]⟩ : ByteArray) y2 (⟨#[]⟩ : ByteArray)).bind fun bt9 => ((driftnetlaw19_run.f (⟨#[123, 123, 46, 97, 124, 108, 111, 119, 101, 114, 125, 125]⟩ : ByteArray) y2 (⟨#[]⟩ : ByteArray)).bind fun bt11 => ((driftnetlaw19_run.f (⟨#[123, 123, 46, 97, 124, 116, 114, 105, 109, 125, 125]⟩ : ByteArray) y2 (⟨#[]⟩ : ByteArray)).bind fun bt13 => ((driftnetlaw19_run.f (⟨#[123, 123, 46, 97, 124, 116, 114, 105, 109, 124, 116, 114, 105, 109, 125, 125]⟩ : ByteArray) y2 (⟨#[]⟩ : ByteArray)).bind fun bt15 => ((driftnetlaw19_run.f (⟨#[123, 123, 46, 97, 124, 113, 117, 111, 116, 101, 125, 125]⟩ : ByteArray) y2 (⟨#[]⟩ : ByteArray)).bind fun bt17 => ((driftnetlaw19_run.f (⟨#[123, 123, 46, 97, 124, 108, 101, 110, 125, 125]⟩ : ByteArray) y2 (⟨#[]⟩ : ByteArray)).bind fun bt19 => ((driftnetlaw19_run.f (⟨#[123, 123, 95, 95, 108, 105, 110, 101, 95, 95, 124, 117, 112, 112, 101, 114, 125, 125]⟩ : ByteArray) ([] : List (S24)) (a0.extract 0 ((ji4) : Int).toNat)).bind fun bt21 => ((driftnetlaw19_run.f (⟨#[123, 123, 46, 97, 124, 116, 114, 105, 109, 124, 113, 117, 111, 116, 101, 124, 108, 101, 110, 125, 125]⟩ : ByteArray) y2 (⟨#[]⟩ : ByteArray)).bind fun bt23 => ((quote_Unquote.f bt17.1).bind fun bt25 => (if bt13.1.toList = ([] : List UInt8) then (driftnetlaw19_FormsFunctions.j0 k (a0.extract 0 ((ji4) : Int).toNat) t5 bt7.1 bt9.1 bt11.1 bt13.1 bt15.1 bt19.1 bt21.1 bt23.1 bt25.1 bt25.2 true) else (if 0 < (bt13.1.size : Int) then (if (bt bt13.1 0) > 32 then (if 0 ≤ (wrap64 ((bt13.1.size : Int) - 1)) then (if (wrap64 ((bt13.1.size : Int) - 1)) < (bt13.1.size : Int) then (driftnetlaw19_FormsFunctions.j0 k (a0.extract 0 ((ji4) : Int).toNat) t5 bt7.1 bt9.1 bt11.1 bt13.1 bt15.1 bt19.1 bt21.1 bt23.1 bt25.1 bt25.2 (decide ((bt bt13.1 (wrap64 ((bt13.1.size : Int) - 1))) > 32))) else (none)) else (none)) else (driftnetlaw19_FormsFunctions.j0 k (a0.extract 0 ((ji4) : Int).toNat) t5 bt7.1 bt9.1 bt11.1 bt13.1 bt15.1 bt19.1 bt21.1 bt23.1 bt25.1 bt25.2 false)) else (none))))))))))))) = some r := H
        have A7 := Aside0.mk A70
        clear A70
        replace H := Option.bind_eq_some_iff.mp H
        obtain ⟨⟨t7, t8⟩, A80, H⟩ := H
        replace H : ((driftnetlaw19_run.f (⟨#[123, 123, 46, 97, 32, 124, 32, 108, 111, 119, 101, 114, 32, 124, 32, 108, 111, 119, 101, 114, 125, 125]⟩ : ByteArray) y2 (⟨#[]⟩ : ByteArray)).bind fun bt9 => ((driftnetlaw19_run.f (⟨#[123, 123, 46, 97, 124, 108, 111, 119, 101, 114, 125, 125]⟩ : ByteArray) y2 (⟨#[]⟩ : ByteArray)).bind fun bt11 => ((driftnetlaw19_run.f (⟨#[123, 123, 46, 97, 124, 116, 114, 105, 109, 125, 125]⟩ : ByteArray) y2 (⟨#[]⟩ : ByteArray)).bind fun bt13 => ((driftnetlaw19_run.f (⟨#[123, 123, 46, 97, 124, 116, 114, 105, 109, 124, 116, 114, 105, 109, 125, 125]⟩ : ByteArray) y2 (⟨#[]⟩ : ByteArray)).bind fun bt15 => ((driftnetlaw19_run.f (⟨#[123, 123, 46, 97, 124, 113, 117, 111, 116, 101, 125, 125]⟩ : ByteArray) y2 (⟨#[]⟩ : ByteArray)).bind fun bt17 => ((driftnetlaw19_run.f (⟨#[123, 123, 46, 97, 124, 108, 101, 110, 125, 125]⟩ : ByteArray) y2 (⟨#[]⟩ : ByteArray)).bind fun bt19 => ((driftnetlaw19_run.f (⟨#[123, 123, 95, 95, 108, 105, 110, 101, 95, 95, 124, 117, 112, 112, 101, 114, 125, 125]⟩ : ByteArray) ([] : List (S24)) (a0.extract 0 ((ji4) : Int).toNat)).bind fun bt21 => ((driftnetlaw19_run.f (⟨#[123, 123, 46, 97, 124, 116, 114, 105, 109, 124, 113, 117, 111, 116, 101, 124, 108, 101, 110, 125, 125]⟩ : ByteArray) y2 (⟨#[]⟩ : ByteArray)).bind fun bt23 => ((quote_Unquote.f bt17.1).bind fun bt25 => (if bt13.1.toList = ([] : List UInt8) then (driftnetlaw19_FormsFunctions.j0 k (a0.extract 0 ((ji4) : Int).toNat) t5 t7 bt9.1 bt11.1 bt13.1 bt15.1 bt19.1 bt21.1 bt23.1 bt25.1 bt25.2 true) else (if 0 < (bt13.1.size : Int) then (if (bt bt13.1 0) > 32 then (if 0 ≤ (wrap64 ((bt13.1.size : Int) - 1)) then (if (wrap64 ((bt13.1.size : Int) - 1)) < (bt13.1.size : Int) then (driftnetlaw19_FormsFunctions.j0 k (a0.extract 0 ((ji4) : Int).toNat) t5 t7 bt9.1 bt11.1 bt13.1 bt15.1 bt19.1 bt21.1 bt23.1 bt25.1 bt25.2 (decide ((bt bt13.1 (wrap64 ((bt13.1.size : Int) - 1))) > 32))) else (none)) else (none)) else (driftnetlaw19_FormsFunctions.j0 k (a0.extract 0 ((ji4) : Int).toNat) t5 t7 bt9.1 bt11.1 bt13.1 bt15.1 bt19.1 bt21.1 bt23.1 bt25.1 bt25.2 false)) else (none)))))))))))) = some r := H
        have A8 := Aside0.mk A80
        clear A80
        replace H := Option.bind_eq_some_iff.mp H
        obtain ⟨⟨t9, t10⟩, A90, H⟩ := H
        replace H : ((driftnetlaw19_run.f (⟨#[123, 123, 46, 97, 124, 108, 111, 119, 101, 114, 125, 125]⟩ : ByteArray) y2 (⟨#[]⟩ : ByteArray)).bind fun bt11 => ((driftnetlaw19_run.f (⟨#[123, 123, 46, 97, 124, 116, 114, 105, 109, 125, 125]⟩ : ByteArray) y2 (⟨#[]⟩ : ByteArray)).bind fun bt13 => ((driftnetlaw19_run.f (⟨#[123, 123, 46, 97, 124, 116, 114, 105, 109, 124, 116, 114, 105, 109, 125, 125]⟩ : ByteArray) y2 (⟨#[]⟩ : ByteArray)).bind fun bt15 => ((driftnetlaw19_run.f (⟨#[123, 123, 46, 97, 124, 113, 117, 111, 116, 101, 125, 125]⟩ : ByteArray) y2 (⟨#[]⟩ : ByteArray)).bind fun bt17 => ((driftnetlaw19_run.f (⟨#[123, 123, 46, 97, 124, 108, 101, 110, 125, 125]⟩ : ByteArray) y2 (⟨#[]⟩ : ByteArray)).bind fun bt19 => ((driftnetlaw19_run.f (⟨#[123, 123, 95, 95, 108, 105, 110, 101, 95, 95, 124, 117, 112, 112, 101, 114, 125, 125]⟩ : ByteArray) ([] : List (S24)) (a0.extract 0 ((ji4) : Int).toNat)).bind fun bt21 => ((driftnetlaw19_run.f (⟨#[123, 123, 46, 97, 124, 116, 114, 105, 109, 124, 113, 117, 111, 116, 101, 124, 108, 101, 110, 125, 125]⟩ : ByteArray) y2 (⟨#[]⟩ : ByteArray)).bind fun bt23 => ((quote_Unquote.f bt17.1).bind fun bt25 => (if bt13.1.toList = ([] : List UInt8) then (driftnetlaw19_FormsFunctions.j0 k (a0.extract 0 ((ji4) : Int).toNat) t5 t7 t9 bt11.1 bt13.1 bt15.1 bt19.1 bt21.1 bt23.1 bt25.1 bt25.2 true) else (if 0 < (bt13.1.size : Int) then (if (bt bt13.1 0) > 32 then (if 0 ≤ (wrap64 ((bt13.1.size : Int) - 1)) then (if (wrap64 ((bt13.1.size : Int) - 1)) < (bt13.1.size : Int) then (driftnetlaw19_FormsFunctions.j0 k (a0.extract 0 ((ji4) : Int).toNat) t5 t7 t9 bt11.1 bt13.1 bt15.1 bt19.1 bt21.1 bt23.1 bt25.1 bt25.2 (decide ((bt bt13.1 (wrap64 ((bt13.1.size : Int) - 1))) > 32))) else (none)) else (none)) else (driftnetlaw19_FormsFunctions.j0 k (a0.extract 0 ((ji4) : Int).toNat) t5 t7 t9 bt11.1 bt13.1 bt15.1 bt19.1 bt21.1 bt23.1 bt25.1 bt25.2 false)) else (none))))))))))) = some r := H
        have A9 := Aside0.mk A90
        clear A90
        replace H := Option.bind_eq_some_iff.mp H
        obtain ⟨⟨t11, t12⟩, A100, H⟩ := H
        replace H : ((driftnetlaw19_run.f (⟨#[123, 123, 46, 97, 124, 116, 114, 105, 109, 125, 125]⟩ : ByteArray) y2 (⟨#[]⟩ : ByteArray)).bind fun bt13 => ((driftnetlaw19_run.f (⟨#[123, 123, 46, 97, 124, 116, 114, 105, 109, 124, 116, 114, 105, 109, 125, 125]⟩ : ByteArray) y2 (⟨#[]⟩ : ByteArray)).bind fun bt15 => ((driftnetlaw19_run.f (⟨#[123, 123, 46, 97, 124, 113, 117, 111, 116, 101, 125, 125]⟩ : ByteArray) y2 (⟨#[]⟩ : ByteArray)).bind fun bt17 => ((driftnetlaw19_run.f (⟨#[123, 123, 46, 97, 124, 108, 101, 110, 125, 125]⟩ : ByteArray) y2 (⟨#[]⟩ : ByteArray)).bind fun bt19 => ((driftnetlaw19_run.f (⟨#[123, 123, 95, 95, 108, 105, 110, 101, 95, 95, 124, 117, 112, 112, 101, 114, 125, 125]⟩ : ByteArray) ([] : List (S24)) (a0.extract 0 ((ji4) : Int).toNat)).bind fun bt21 => ((driftnetlaw19_run.f (⟨#[123, 123, 46, 97, 124, 116, 114, 105, 109, 124, 113, 117, 111, 116, 101, 124, 108, 101, 110, 125, 125]⟩ : ByteArray) y2 (⟨#[]⟩ : ByteArray)).bind fun bt23 => ((quote_Unquote.f bt17.1).bind fun bt25 => (if bt13.1.toList = ([] : List UInt8) then (driftnetlaw19_FormsFunctions.j0 k (a0.extract 0 ((ji4) : Int).toNat) t5 t7 t9 t11 bt13.1 bt15.1 bt19.1 bt21.1 bt23.1 bt25.1 bt25.2 true) else (if 0 < (bt13.1.size : Int) then (if (bt bt13.1 0) > 32 then (if 0 ≤ (wrap64 ((bt13.1.size : Int) - 1)) then (if (wrap64 ((bt13.1.size : Int) - 1)) < (bt13.1.size : Int) then (driftnetlaw19_FormsFunctions.j0 k (a0.extract 0 ((ji4) : Int).toNat) t5 t7 t9 t11 bt13.1 bt15.1 bt19.1 bt21.1 bt23.1 bt25.1 bt25.2 (decide ((bt bt13.1 (wrap64 ((bt13.1.size : Int) - 1))) > 32))) else (none)) else (none)) else (driftnetlaw19_FormsFunctions.j0 k (a0.extract 0 ((ji4) : Int).toNat) t5 t7 t9 t11 bt13.1 bt15.1 bt19.1 bt21.1 bt23.1 bt25.1 bt25.2 false)) else (none)))))))))) = some r := H
        have A10 := Aside0.mk A100
        clear A100
        replace H := Option.bind_eq_some_iff.mp H
        obtain ⟨⟨t13, t14⟩, A110, H⟩ := H
        replace H : ((driftnetlaw19_run.f (⟨#[123, 123, 46, 97, 124, 116, 114, 105, 109, 124, 116, 114, 105, 109, 125, 125]⟩ : ByteArray) y2 (⟨#[]⟩ : ByteArray)).bind fun bt15 => ((driftnetlaw19_run.f (⟨#[123, 123, 46, 97, 124, 113, 117, 111, 116, 101, 125, 125]⟩ : ByteArray) y2 (⟨#[]⟩ : ByteArray)).bind fun bt17 => ((driftnetlaw19_run.f (⟨#[123, 123, 46, 97, 124, 108, 101, 110, 125, 125]⟩ : ByteArray) y2 (⟨#[]⟩ : ByteArray)).bind fun bt19 => ((driftnetlaw19_run.f (⟨#[123, 123, 95, 95, 108, 105, 110, 101, 95, 95, 124, 117, 112, 112, 101, 114, 125, 125]⟩ : ByteArray) ([] : List (S24)) (a0.extract 0 ((ji4) : Int).toNat)).bind fun bt21 => ((driftnetlaw19_run.f (⟨#[123, 123, 46, 97, 124, 116, 114, 105, 109, 124, 113, 117, 111, 116, 101, 124, 108, 101, 110, 125, 125]⟩ : ByteArray) y2 (⟨#[]⟩ : ByteArray)).bind fun bt23 => ((quote_Unquote.f bt17.1).bind fun bt25 => (if t13.toList = ([] : List UInt8) then (driftnetlaw19_FormsFunctions.j0 k (a0.extract 0 ((ji4) : Int).toNat) t5 t7 t9 t11 t13 bt15.1 bt19.1 bt21.1 bt23.1 bt25.1 bt25.2 true) else (if 0 < (t13.size : Int) then (if (bt t13 0) > 32 then (if 0 ≤ (wrap64 ((t13.size : Int) - 1)) then (if (wrap64 ((t13.size : Int) - 1)) < (t13.size : Int) then (driftnetlaw19_FormsFunctions.j0 k (a0.extract 0 ((ji4) : Int).toNat) t5 t7 t9 t11 t13 bt15.1 bt19.1 bt21.1 bt23.1 bt25.1 bt25.2 (decide ((bt t13 (wrap64 ((t13.size : Int) - 1))) > 32))) else (none)) else (none)) else (driftnetlaw19_FormsFunctions.j0 k (a0.extract 0 ((ji4) : Int).toNat) t5 t7 t9 t11 t13 bt15.1 bt19.1 bt21.1 bt23.1 bt25.1 bt25.2 false)) else (none))))))))) = some r := H
        have A11 := Aside0.mk A110
        clear A110
        replace H := Option.bind_eq_some_iff.mp H
        obtain ⟨⟨t15, t16⟩, A120, H⟩ := H
        replace H : ((driftnetlaw19_run.f (⟨#[123, 123, 46, 97, 124, 113, 117, 111, 116, 101, 125, 125]⟩ : ByteArray) y2 (⟨#[]⟩ : ByteArray)).bind fun bt17 => ((driftnetlaw19_run.f (⟨#[123, 123, 46, 97, 124, 108, 101, 110, 125, 125]⟩ : ByteArray) y2 (⟨#[]⟩ : ByteArray)).bind fun bt19 => ((driftnetlaw19_run.f (⟨#[123, 123, 95, 95, 108, 105, 110, 101, 95, 95, 124, 117, 112, 112, 101, 114, 125, 125]⟩ : ByteArray) ([] : List (S24)) (a0.extract 0 ((ji4) : Int).toNat)).bind fun bt21 => ((driftnetlaw19_run.f (⟨#[123, 123, 46, 97, 124, 116, 114, 105, 109, 124, 113, 117, 111, 116, 101, 124, 108, 101, 110, 125, 125]⟩ : ByteArray) y2 (⟨#[]⟩ : ByteArray)).bind fun bt23 => ((quote_Unquote.f bt17.1).bind fun bt25 => (if t13.toList = ([] : List UInt8) then (driftnetlaw19_FormsFunctions.j0 k (a0.extract 0 ((ji4) : Int).toNat) t5 t7 t9 t11 t13 t15 bt19.1 bt21.1 bt23.1 bt25.1 bt25.2 true) else (if 0 < (t13.size : Int) then (if (bt t13 0) > 32 then (if 0 ≤ (wrap64 ((t13.size : Int) - 1)) then (if (wrap64 ((t13.size : Int) - 1)) < (t13.size : Int) then (driftnetlaw19_FormsFunctions.j0 k (a0.extract 0 ((ji4) : Int).toNat) t5 t7 t9 t11 t13 t15 bt19.1 bt21.1 bt23.1 bt25.1 bt25.2 (decide ((bt t13 (wrap64 ((t13.size : Int) - 1))) > 32))) else (none)) else (none)) else (driftnetlaw19_FormsFunctions.j0 k (a0.extract 0 ((ji4) : Int).toNat) t5 t7 t9 t11 t13 t15 bt19.1 bt21.1 bt23.1 bt25.1 bt25.2 false)) else (none)))))))) = some r := H
        have A12 := Aside0.mk A120
        clear A120
        replace H := Option.bind_eq_some_iff.mp H
        obtain ⟨⟨t17, t18⟩, A130, H⟩ := H
        replace H : ((driftnetlaw19_run.f (⟨#[123, 123, 46, 97, 124, 108, 101, 110, 125, 125]⟩ : ByteArray) y2 (⟨#[]⟩ : ByteArray)).bind fun bt19 => ((driftnetlaw19_run.f (⟨#[123, 123, 95, 95, 108, 105, 110, 101, 95, 95, 124, 117, 112, 112, 101, 114, 125, 125]⟩ : ByteArray) ([] : List (S24)) (a0.extract 0 ((ji4) : Int).toNat)).bind fun bt21 => ((driftnetlaw19_run.f (⟨#[123, 123, 46, 97, 124, 116, 114, 105, 109, 124, 113, 117, 111, 116, 101, 124, 108, 101, 110, 125, 125]⟩ : ByteArray) y2 (⟨#[]⟩ : ByteArray)).bind fun bt23 => ((quote_Unquote.f t17).bind fun bt25 => (if t13.toList = ([] : List UInt8) then (driftnetlaw19_FormsFunctions.j0 k (a0.extract 0 ((ji4) : Int).toNat) t5 t7 t9 t11 t13 t15 bt19.1 bt21.1 bt23.1 bt25.1 bt25.2 true) else (if 0 < (t13.size : Int) then (if (bt t13 0) > 32 then (if 0 ≤ (wrap64 ((t13.size : Int) - 1)) then (if (wrap64 ((t13.size : Int) - 1)) < (t13.size : Int) then (driftnetlaw19_FormsFunctions.j0 k (a0.extract 0 ((ji4) : Int).toNat) t5 t7 t9 t11 t13 t15 bt19.1 bt21.1 bt23.1 bt25.1 bt25.2 (decide ((bt t13 (wrap64 ((t13.size : Int) - 1))) > 32))) else (none)) else (none)) else (driftnetlaw19_FormsFunctions.j0 k (a0.extract 0 ((ji4) : Int).toNat) t5 t7 t9 t11 t13 t15 bt19.1 bt21.1 bt23.1 bt25.1 bt25.2 false)) else (none))))))) = some r := H
        have A13 := Aside0.mk A130
        clear A130
        replace H := Option.bind_eq_some_iff.mp H
        obtain ⟨⟨t19, t20⟩, A140, H⟩ := H
        replace H : ((driftnetlaw19_run.f (⟨#[123, 123, 95, 95, 108, 105, 110, 101, 95, 95, 124, 117, 112, 112, 101, 114, 125, 125]⟩ : ByteArray) ([] : List (S24)) (a0.extract 0 ((ji4) : Int).toNat)).bind fun bt21 => ((driftnetlaw19_run.f (⟨#[123, 123, 46, 97, 124, 116, 114, 105, 109, 124, 113, 117, 111, 116, 101, 124, 108, 101, 110, 125, 125]⟩ : ByteArray) y2 (⟨#[]⟩ : ByteArray)).bind fun bt23 => ((quote_Unquote.f t17).bind fun bt25 => (if t13.toList = ([] : List UInt8) then (driftnetlaw19_FormsFunctions.j0 k (a0.extract 0 ((ji4) : Int).toNat) t5 t7 t9 t11 t13 t15 t19 bt21.1 bt23.1 bt25.1 bt25.2 true) else (if 0 < (t13.size : Int) then (if (bt t13 0) > 32 then (if 0 ≤ (wrap64 ((t13.size : Int) - 1)) then (if (wrap64 ((t13.size : Int) - 1)) < (t13.size : Int) then (driftnetlaw19_FormsFunctions.j0 k (a0.extract 0 ((ji4) : Int).toNat) t5 t7 t9 t11 t13 t15 t19 bt21.1 bt23.1 bt25.1 bt25.2 (decide ((bt t13 (wrap64 ((t13.size : Int) - 1))) > 32))) else (none)) else (none)) else (driftnetlaw19_FormsFunctions.j0 k (a0.extract 0 ((ji4) : Int).toNat) t5 t7 t9 t11 t13 t15 t19 bt21.1 bt23.1 bt25.1 bt25.2 false)) else (none)))))) = some r := H
        have A14 := Aside0.mk A140
        clear A140
        replace H := Option.bind_eq_some_iff.mp H
        obtain ⟨⟨t21, t22⟩, A150, H⟩ := H
        replace H : ((driftnetlaw19_run.f (⟨#[123, 123, 46, 97, 124, 116, 114, 105, 109, 124, 113, 117, 111, 116, 101, 124, 108, 101, 110, 125, 125]⟩ : ByteArray) y2 (⟨#[]⟩ : ByteArray)).bind fun bt23 => ((quote_Unquote.f t17).bind fun bt25 => (if t13.toList = ([] : List UInt8) then (driftnetlaw19_FormsFunctions.j0 k (a0.extract 0 ((ji4) : Int).toNat) t5 t7 t9 t11 t13 t15 t19 t21 bt23.1 bt25.1 bt25.2 true) else (if 0 < (t13.size : Int) then (if (bt t13 0) > 32 then (if 0 ≤ (wrap64 ((t13.size : Int) - 1)) then (if (wrap64 ((t13.size : Int) - 1)) < (t13.size : Int) then (driftnetlaw19_FormsFunctions.j0 k (a0.extract 0 ((ji4) : Int).toNat) t5 t7 t9 t11 t13 t15 t19 t21 bt23.1 bt25.1 bt25.2 (decide ((bt t13 (wrap64 ((t13.size : Int) - 1))) > 32))) else (none)) else (none)) else (driftnetlaw19_FormsFunctions.j0 k (a0.extract 0 ((ji4) : Int).toNat) t5 t7 t9 t11 t13 t15 t19 t21 bt23.1 bt25.1 bt25.2 false)) else (none))))) = some r := H
        have A15 := Aside0.mk A150
        clear A150
        replace H := Option.bind_eq_some_iff.mp H
        obtain ⟨⟨t23, t24⟩, A160, H⟩ := H
        replace H : ((quote_Unquote.f t17).bind fun bt25 => (if t13.toList = ([] : List UInt8) then (driftnetlaw19_FormsFunctions.j0 k (a0.extract 0 ((ji4) : Int).toNat) t5 t7 t9 t11 t13 t15 t19 t21 t23 bt25.1 bt25.2 true) else (if 0 < (t13.size : Int) then (if (bt t13 0) > 32 then (if 0 ≤ (wrap64 ((t13.size : Int) - 1)) then (if (wrap64 ((t13.size : Int) - 1)) < (t13.size : Int) then (driftnetlaw19_FormsFunctions.j0 k (a0.extract 0 ((ji4) : Int).toNat) t5 t7 t9 t11 t13 t15 t19 t21 t23 bt25.1 bt25.2 (decide ((bt t13 (wrap64 ((t13.size : Int) - 1))) > 32))) else (none)) else (none)) else (driftnetlaw19_FormsFunctions.j0 k (a0.extract 0 ((ji4) : Int).toNat) t5 t7 t9 t11 t13 t15 t19 t21 t23 bt25.1 bt25.2 false)) else (none)))) = some r := H
        have A16 := Aside0.mk A160
        clear A160
        replace H := Option.bind_eq_some_iff.mp H
        obtain ⟨⟨t25, t26⟩, A170, H⟩ := H
        replace H : (if t13.toList = ([] : List UInt8) then (driftnetlaw19_FormsFunctions.j0 k (a0.extract 0 ((ji4) : Int).toNat) t5 t7 t9 t11 t13 t15 t19 t21 t23 t25 t26 true) else (if 0 < (t13.size : Int) then (if (bt t13 0) > 32 then (if 0 ≤ (wrap64 ((t13.size : Int) - 1)) then (if (wrap64 ((t13.size : Int) - 1)) < (t13.size : Int) then (driftnetlaw19_FormsFunctions.j0 k (a0.extract 0 ((ji4) : Int).toNat) t5 t7 t9 t11 t13 t15 t19 t21 t23 t25 t26 (decide ((bt t13 (wrap64 ((t13.size : Int) - 1))) > 32))) else (none)) else (none)) else (driftnetlaw19_FormsFunctions.j0 k (a0.extract 0 ((ji4) : Int).toNat) t5 t7 t9 t11 t13 t15 t19 t21 t23 t25 t26 false)) else (none))) = some r := H
        have A17 := Aside0.mk A170
        clear A170
        have HC18 := Aside0.mk H
        clear H
        go_enter Tryz.func3, Tryz.ntmps3
        go_upto_region 16 with (first | ((with_reducible refine gate_callee (f := 4) rfl ?_); refine goesL_ (some 27) rfl rfl Tryz.func4 (by kernel_rfl) rfl #[] rfl (by (try simp only [List.map_toArray, List.map_cons, List.map_nil]); first | done | rfl | (simp only [List.length_drop, List.length_take]; rfl)) ?_; (with_reducible refine (driftnetlaw19_works.calls  true _ ?side1 A2.out).mono ?_); (case side1 => exact G.at hG.out (by repeat (first | (with_reducible first | exact HB.out | apply below_alloc | apply pw_below_drewN | apply below_drew1) | exact HB.out))); rintro e w19 ⟨rfl, hb⟩; refine ⟨_, rfl, ?_⟩; have n0_ := Aside0.mk (below_step (by repeat (first | (with_reducible first | exact HB.out | apply below_alloc | apply pw_below_drewN | apply below_drew1) | exact HB.out)) hb); clear HB; have HB := n0_; clear n0_; (try clear hb); (try clear hb2); (try clear hk); (try clear hi)) | ((with_reducible refine gate_dst (N := 36) rfl ?_); (try (refine gate_guard (by rfl) ?_; dsimp only)); refine Kd.R_lit k24 _ 24 ?hg (N := 36) ?hd (xs := ([(⟨(⟨#[97]⟩ : ByteArray), a0.extract 0 ((ji4) : Int).toNat⟩ : S24)] : List (S24))) (inner := [.string (⟨#[97]⟩ : ByteArray), .string (a0.extract 0 ((ji4) : Int).toNat)]) (ok := fun _ => True) (okp := fun _ => True) ?hr ?hp (fun _ hk => hk) trivial (Below.refl _ _) (Nat.le_refl _) (by simp) ?_; (case hd => rfl); (case hg => rfl); (case hr => first | (go_simp; done) | (go_simp; rfl)); (case hp => exact (Reps.c2 (show Kd.M k24 _ _ _ (⟨(⟨#[97]⟩ : ByteArray), a0.extract 0 ((ji4) : Int).toNat⟩ : S24) [.string (⟨#[97]⟩ : ByteArray), .string (a0.extract 0 ((ji4) : Int).toNat)] from (k24_mkM _ _ _ (⟨(⟨#[97]⟩ : ByteArray), a0.extract 0 ((ji4) : Int).toNat⟩ : S24) )) (Reps.none _ _))); intro v3 w20 ho21 hb hg_ hnew_; clear hg_ hnew_; (first | rw [← Ny2.out] at ho21 | (simp only [Int.reduceToNat] at ho21; rw [← Ny2.out] at ho21)); have n0_ := Aside0.mk (Kd.R_lower ho21 (below_size (by repeat (first | (with_reducible first | exact HB.out | apply below_alloc | apply pw_below_drewN | apply below_drew1) | exact HB.out)))); have n1_ := Aside0.mk (below_step (by repeat (first | (with_reducible first | exact HB.out | apply below_alloc | apply pw_below_drewN | apply below_drew1) | exact HB.out)) hb); clear HB; have HO4 := n0_; have HB := n1_; clear n0_ n1_; clear hb ho21; obtain ⟨Ao22, co22, eo22⟩ := Kd.R_slice HO4.out; subst eo22) | ((with_reducible refine gate_callee (f := 5) rfl ?_); refine goesL_ (some 39) rfl rfl Tryz.func5 (by kernel_rfl) rfl #[.string (⟨#[123, 123, 46, 97, 124, 117, 112, 112, 101, 114, 125, 125]⟩ : ByteArray), .slice Ao22 y2.length co22, .string (⟨#[]⟩ : ByteArray)] rfl (by (try simp only [List.map_toArray, List.map_cons, List.map_nil]); first | done | rfl | (simp only [List.length_drop, List.length_take]; rfl)) ?_; (with_reducible refine (driftnetlaw19_run.calls (⟨#[123, 123, 46, 97, 124, 117, 112, 112, 101, 114, 125, 125]⟩ : ByteArray) _ _ y2 (⟨#[]⟩ : ByteArray) t5 t6 _ ?side1 ?side2 ?side3 A7.out).mono ?_); (case side1 => repeat (first | exact (Kd.R_reads' HO4.out).2.2 | (with_reducible refine Kd.C_alloc ?_ _) | (with_reducible refine Kd.C_drewN ?_ _) | (with_reducible refine Kd.C_drew ?_))); (case side2 => exact (Kd.R_reads' HO4.out).2.1); (case side3 => exact G.at hG.out (by repeat (first | (with_reducible first | exact HB.out | apply below_alloc | apply pw_below_drewN | apply below_drew1) | exact HB.out))); rintro e w23 ⟨rfl, hb⟩; refine ⟨_, rfl, ?_⟩; have n0_ := Aside0.mk (Kd.R_below (by (with_reducible repeat (first | apply Kd.R_alloc | apply Kd.R_drewN | apply Kd.R_drew)); exact HO4.out) hb); have n1_ := Aside0.mk (below_step (by repeat (first | (with_reducible first | exact HB.out | apply below_alloc | apply pw_below_drewN | apply below_drew1) | exact HB.out)) hb); clear HO4; clear HB; have HO4 := n0_; have HB := n1_; clear n0_ n1_; (try clear hb); (try clear hb2); (try clear hk); (try clear hi)) | ((with_reducible refine gate_callee (f := 5) rfl ?_); refine goesL_ (some 44) rfl rfl Tryz.func5 (by kernel_rfl) rfl #[.string (⟨#[123, 123, 46, 97, 124, 117, 112, 112, 101, 114, 124, 108, 111, 119, 101, 114, 124, 117, 112, 112, 101, 114, 125, 125]⟩ : ByteArray), .slice Ao22 y2.length co22, .string (⟨#[]⟩ : ByteArray)] rfl (by (try simp only [List.map_toArray, List.map_cons, List.map_nil]); first | done | rfl | (simp only [List.length_drop, List.length_take]; rfl)) ?_; (with_reducible refine (driftnetlaw19_run.calls (⟨#[123, 123, 46, 97, 124, 117, 112, 112, 101, 114, 124, 108, 111, 119, 101, 114, 124, 117, 112, 112, 101, 114, 125, 125]⟩ : ByteArray) _ _ y2 (⟨#[]⟩ : ByteArray) t7 t8 _ ?side1 ?side2 ?side3 A8.out).mono ?_); (case side1 => repeat (first | exact (Kd.R_reads' HO4.out).2.2 | (with_reducible refine Kd.C_alloc ?_ _) | (with_reducible refine Kd.C_drewN ?_ _) | (with_reducible refine Kd.C_drew ?_))); (case side2 => exact (Kd.R_reads' HO4.out).2.1); (case side3 => exact G.at hG.out (by repeat (first | (with_reducible first | exact HB.out | apply below_alloc | apply pw_below_drewN | apply below_drew1) | exact HB.out))); rintro e w24 ⟨rfl, hb⟩; refine ⟨_, rfl, ?_⟩; have n0_ := Aside0.mk (Kd.R_below (by (with_reducible repeat (first | apply Kd.R_alloc | apply Kd.R_drewN | apply Kd.R_drew)); exact HO4.out) hb); have n1_ := Aside0.mk (below_step (by repeat (first | (with_reducible first | exact HB.out | apply below_alloc | apply pw_below_drewN | apply below_drew1) | exact HB.out)) hb); clear HO4; clear HB; have HO4 := n0_; have HB := n1_; clear n0_ n1_; (try clear hb); (try clear hb2); (try clear hk); (try clear hi)) | ((with_reducible refine gate_callee (f := 5) rfl ?_); refine goesL_ (some 49) rfl rfl Tryz.func5 (by kernel_rfl) rfl #[.string (⟨#[123, 123, 46, 97, 32, 124, 32, 108, 111, 119, 101, 114, 32, 124, 32, 108, 111, 119, 101, 114, 125, 125]⟩ : ByteArray), .slice Ao22 y2.length co22, .string (⟨#[]⟩ : ByteArray)] rfl (by (try simp only [List.map_toArray, List.map_cons, List.map_nil]); first | done | rfl | (simp only [List.length_drop, List.length_take]; rfl)) ?_; (with_reducible refine (driftnetlaw19_run.calls (⟨#[123, 123, 46, 97, 32, 124, 32, 108, 111, 119, 101, 114, 32, 124, 32, 108, 111, 119, 101, 114, 125, 125]⟩ : ByteArray) _ _ y2 (⟨#[]⟩ : ByteArray) t9 t10 _ ?side1 ?side2 ?side3 A9.out).mono ?_); (case side1 => repeat (first | exact (Kd.R_reads' HO4.out).2.2 | (with_reducible refine Kd.C_alloc ?_ _) | (with_reducible refine Kd.C_drewN ?_ _) | (with_reducible refine Kd.C_drew ?_))); (case side2 => exact (Kd.R_reads' HO4.out).2.1); (case side3 => exact G.at hG.out (by repeat (first | (with_reducible first | exact HB.out | apply below_alloc | apply pw_below_drewN | apply below_drew1) | exact HB.out))); rintro e w25 ⟨rfl, hb⟩; refine ⟨_, rfl, ?_⟩; have n0_ := Aside0.mk (Kd.R_below (by (with_reducible repeat (first | apply Kd.R_alloc | apply Kd.R_drewN | apply Kd.R_drew)); exact HO4.out) hb); have n1_ := Aside0.mk (below_step (by repeat (first | (with_reducible first | exact HB.out | apply below_alloc | apply pw_below_drewN | apply below_drew1) | exact HB.out)) hb); clear HO4; clear HB; have HO4 := n0_; have HB := n1_; clear n0_ n1_; (try clear hb); (try clear hb2); (try clear hk); (try clear hi)) | ((with_reducible refine gate_callee (f := 5) rfl ?_); refine goesL_ (some 54) rfl rfl Tryz.func5 (by kernel_rfl) rfl #[.string (⟨#[123, 123, 46, 97, 124, 108, 111, 119, 101, 114, 125, 125]⟩ : ByteArray), .slice Ao22 y2.length co22, .string (⟨#[]⟩ : ByteArray)] rfl (by (try simp only [List.map_toArray, List.map_cons, List.map_nil]); first | done | rfl | (simp only [List.length_drop, List.length_take]; rfl)) ?_; (with_reducible refine (driftnetlaw19_run.calls (⟨#[123, 123, 46, 97, 124, 108, 111, 119, 101, 114, 125, 125]⟩ : ByteArray) _ _ y2 (⟨#[]⟩ : ByteArray) t11 t12 _ ?side1 ?side2 ?side3 A10.out).mono ?_); (case side1 => repeat (first | exact (Kd.R_reads' HO4.out).2.2 | (with_reducible refine Kd.C_alloc ?_ _) | (with_reducible refine Kd.C_drewN ?_ _) | (with_reducible refine Kd.C_drew ?_))); (case side2 => exact (Kd.R_reads' HO4.out).2.1); (case side3 => exact G.at hG.out (by repeat (first | (with_reducible first | exact HB.out | apply below_alloc | apply pw_below_drewN | apply below_drew1) | exact HB.out))); rintro e w26 ⟨rfl, hb⟩; refine ⟨_, rfl, ?_⟩; have n0_ := Aside0.mk (Kd.R_below (by (with_reducible repeat (first | apply Kd.R_alloc | apply Kd.R_drewN | apply Kd.R_drew)); exact HO4.out) hb); have n1_ := Aside0.mk (below_step (by repeat (first | (with_reducible first | exact HB.out | apply below_alloc | apply pw_below_drewN | apply below_drew1) | exact HB.out)) hb); clear HO4; clear HB; have HO4 := n0_; have HB := n1_; clear n0_ n1_; (try clear hb); (try clear hb2); (try clear hk); (try clear hi)) | ((with_reducible refine gate_callee (f := 5) rfl ?_); refine goesL_ (some 59) rfl rfl Tryz.func5 (by kernel_rfl) rfl #[.string (⟨#[123, 123, 46, 97, 124, 116, 114, 105, 109, 125, 125]⟩ : ByteArray), .slice Ao22 y2.length co22, .string (⟨#[]⟩ : ByteArray)] rfl (by (try simp only [List.map_toArray, List.map_cons, List.map_nil]); first | done | rfl | (simp only [List.length_drop, List.length_take]; rfl)) ?_; (with_reducible refine (driftnetlaw19_run.calls (⟨#[123, 123, 46, 97, 124, 116, 114, 105, 109, 125, 125]⟩ : ByteArray) _ _ y2 (⟨#[]⟩ : ByteArray) t13 t14 _ ?side1 ?side2 ?side3 A11.out).mono ?_); (case side1 => repeat (first | exact (Kd.R_reads' HO4.out).2.2 | (with_reducible refine Kd.C_alloc ?_ _) | (with_reducible refine Kd.C_drewN ?_ _) | (with_reducible refine Kd.C_drew ?_))); (case side2 => exact (Kd.R_reads' HO4.out).2.1); (case side3 => exact G.at hG.out (by repeat (first | (with_reducible first | exact HB.out | apply below_alloc | apply pw_below_drewN | apply below_drew1) | exact HB.out))); rintro e w27 ⟨rfl, hb⟩; refine ⟨_, rfl, ?_⟩; have n0_ := Aside0.mk (Kd.R_below (by (with_reducible repeat (first | apply Kd.R_alloc | apply Kd.R_drewN | apply Kd.R_drew)); exact HO4.out) hb); have n1_ := Aside0.mk (below_step (by repeat (first | (with_reducible first | exact HB.out | apply below_alloc | apply pw_below_drewN | apply below_drew1) | exact HB.out)) hb); clear HO4; clear HB; have HO4 := n0_; have HB := n1_; clear n0_ n1_; (try clear hb); (try clear hb2); (try clear hk); (try clear hi)) | ((with_reducible refine gate_callee (f := 5) rfl ?_); refine goesL_ (some 64) rfl rfl Tryz.func5 (by kernel_rfl) rfl #[.string (⟨#[123, 123, 46, 97, 124, 116, 114, 105, 109, 124, 116, 114, 105, 109, 125, 125]⟩ : ByteArray), .slice Ao22 y2.length co22, .string (⟨#[]⟩ : ByteArray)] rfl (by (try simp only [List.map_toArray, List.map_cons, List.map_nil]); first | done | rfl | (simp only [List.length_drop, List.length_take]; rfl)) ?_; (with_reducible refine (driftnetlaw19_run.calls (⟨#[123, 123, 46, 97, 124, 116, 114, 105, 109, 124, 116, 114, 105, 109, 125, 125]⟩ : ByteArray) _ _ y2 (⟨#[]⟩ : ByteArray) t15 t16 _ ?side1 ?side2 ?side3 A12.out).mono ?_); (case side1 => repeat (first | exact (Kd.R_reads' HO4.out).2.2 | (with_reducible refine Kd.C_alloc ?_ _) | (with_reducible refine Kd.C_drewN ?_ _) | (with_reducible refine Kd.C_drew ?_))); (case side2 => exact (Kd.R_reads' HO4.out).2.1); (case side3 => exact G.at hG.out (by repeat (first | (with_reducible first | exact HB.out | apply below_alloc | apply pw_below_drewN | apply below_drew1) | exact HB.out))); rintro e w28 ⟨rfl, hb⟩; refine ⟨_, rfl, ?_⟩; have n0_ := Aside0.mk (Kd.R_below (by (with_reducible repeat (first | apply Kd.R_alloc | apply Kd.R_drewN | apply Kd.R_drew)); exact HO4.out) hb); have n1_ := Aside0.mk (below_step (by repeat (first | (with_reducible first | exact HB.out | apply below_alloc | apply pw_below_drewN | apply below_drew1) | exact HB.out)) hb); clear HO4; clear HB; have HO4 := n0_; have HB := n1_; clear n0_ n1_; (try clear hb); (try clear hb2); (try clear hk); (try clear hi)) | ((with_reducible refine gate_callee (f := 5) rfl ?_); refine goesL_ (some 69) rfl rfl Tryz.func5 (by kernel_rfl) rfl #[.string (⟨#[123, 123, 46, 97, 124, 113, 117, 111, 116, 101, 125, 125]⟩ : ByteArray), .slice Ao22 y2.length co22, .string (⟨#[]⟩ : ByteArray)] rfl (by (try simp only [List.map_toArray, List.map_cons, List.map_nil]); first | done | rfl | (simp only [List.length_drop, List.length_take]; rfl)) ?_; (with_reducible refine (driftnetlaw19_run.calls (⟨#[123, 123, 46, 97, 124, 113, 117, 111, 116, 101, 125, 125]⟩ : ByteArray) _ _ y2 (⟨#[]⟩ : ByteArray) t17 t18 _ ?side1 ?side2 ?side3 A13.out).mono ?_); (case side1 => repeat (first | exact (Kd.R_reads' HO4.out).2.2 | (with_reducible refine Kd.C_alloc ?_ _) | (with_reducible refine Kd.C_drewN ?_ _) | (with_reducible refine Kd.C_drew ?_))); (case side2 => exact (Kd.R_reads' HO4.out).2.1); (case side3 => exact G.at hG.out (by repeat (first | (with_reducible first | exact HB.out | apply below_alloc | apply pw_below_drewN | apply below_drew1) | exact HB.out))); rintro e w29 ⟨rfl, hb⟩; refine ⟨_, rfl, ?_⟩; have n0_ := Aside0.mk (Kd.R_below (by (with_reducible repeat (first | apply Kd.R_alloc | apply Kd.R_drewN | apply Kd.R_drew)); exact HO4.out) hb); have n1_ := Aside0.mk (below_step (by repeat (first | (with_reducible first | exact HB.out | apply below_alloc | apply pw_below_drewN | apply below_drew1) | exact HB.out)) hb); clear HO4; clear HB; have HO4 := n0_; have HB := n1_; clear n0_ n1_; (try clear hb); (try clear hb2); (try clear hk); (try clear hi)) | ((with_reducible refine gate_callee (f := 5) rfl ?_); refine goesL_ (some 74) rfl rfl Tryz.func5 (by kernel_rfl) rfl #[.string (⟨#[123, 123, 46, 97, 124, 108, 101, 110, 125, 125]⟩ : ByteArray), .slice Ao22 y2.length co22, .string (⟨#[]⟩ : ByteArray)] rfl (by (try simp only [List.map_toArray, List.map_cons, List.map_nil]); first | done | rfl | (simp only [List.length_drop, List.length_take]; rfl)) ?_; (with_reducible refine (driftnetlaw19_run.calls (⟨#[123, 123, 46, 97, 124, 108, 101, 110, 125, 125]⟩ : ByteArray) _ _ y2 (⟨#[]⟩ : ByteArray) t19 t20 _ ?side1 ?side2 ?side3 A14.out).mono ?_); (case side1 => repeat (first | exact (Kd.R_reads' HO4.out).2.2 | (with_reducible refine Kd.C_alloc ?_ _) | (with_reducible refine Kd.C_drewN ?_ _) | (with_reducible refine Kd.C_drew ?_))); (case side2 => exact (Kd.R_reads' HO4.out).2.1); (case side3 => exact G.at hG.out (by repeat (first | (with_reducible first | exact HB.out | apply below_alloc | apply pw_below_drewN | apply below_drew1) | exact HB.out))); rintro e w30 ⟨rfl, hb⟩; refine ⟨_, rfl, ?_⟩; have n0_ := Aside0.mk (Kd.R_below (by (with_reducible repeat (first | apply Kd.R_alloc | apply Kd.R_drewN | apply Kd.R_drew)); exact HO4.out) hb); have n1_ := Aside0.mk (below_step (by repeat (first | (with_reducible first | exact HB.out | apply below_alloc | apply pw_below_drewN | apply below_drew1) | exact HB.out)) hb); clear HO4; clear HB; have HO4 := n0_; have HB := n1_; clear n0_ n1_; (try clear hb); (try clear hb2); (try clear hk); (try clear hi)) | ((with_reducible refine gate_callee (f := 5) rfl ?_); refine goesL_ (some 79) rfl rfl Tryz.func5 (by kernel_rfl) rfl #[.string (⟨#[123, 123, 95, 95, 108, 105, 110, 101, 95, 95, 124, 117, 112, 112, 101, 114, 125, 125]⟩ : ByteArray), .slice none 0 0, .string (a0.extract 0 ((ji4) : Int).toNat)] rfl (by (try simp only [List.map_toArray, List.map_cons, List.map_nil]); first | done | (simp only [hji4]; rfl) | rfl | (simp only [List.length_drop, List.length_take]; rfl)) ?_; (refine (driftnetlaw19_run.calls (⟨#[123, 123, 95, 95, 108, 105, 110, 101, 95, 95, 124, 117, 112, 112, 101, 114, 125, 125]⟩ : ByteArray) _ _ ([] : List (S24)) (a0.extract 0 ((ji4) : Int).toNat) t21 t22 _ ?side1 ?side2 ?side3 A15.out).mono ?_); (case side1 => exact Kd.C_nil _ _); (case side2 => exact Nat.le_refl _); (case side3 => exact G.at hG.out (by repeat (first | (with_reducible first | exact HB.out | apply below_alloc | apply pw_below_drewN | apply below_drew1) | exact HB.out))); rintro e w31 ⟨rfl, hb⟩; refine ⟨_, rfl, ?_⟩; have n0_ := Aside0.mk (Kd.R_below (by (with_reducible repeat (first | apply Kd.R_alloc | apply Kd.R_drewN | apply Kd.R_drew)); exact HO4.out) hb); have n1_ := Aside0.mk (below_step (by repeat (first | (with_reducible first | exact HB.out | apply below_alloc | apply pw_below_drewN | apply below_drew1) | exact HB.out)) hb); clear HO4; clear HB; have HO4 := n0_; have HB := n1_; clear n0_ n1_; (try clear hb); (try clear hb2); (try clear hk); (try clear hi)) | ((with_reducible refine gate_callee (f := 5) rfl ?_); refine goesL_ (some 84) rfl rfl Tryz.func5 (by kernel_rfl) rfl #[.string (⟨#[123, 123, 46, 97, 124, 116, 114, 105, 109, 124, 113, 117, 111, 116, 101, 124, 108, 101, 110, 125, 125]⟩ : ByteArray), .slice Ao22 y2.length co22, .string (⟨#[]⟩ : ByteArray)] rfl (by (try simp only [List.map_toArray, List.map_cons, List.map_nil]); first | done | rfl | (simp only [List.length_drop, List.length_take]; rfl)) ?_; (with_reducible refine (driftnetlaw19_run.calls (⟨#[123, 123, 46, 97, 124, 116, 114, 105, 109, 124, 113, 117, 111, 116, 101, 124, 108, 101, 110, 125, 125]⟩ : ByteArray) _ _ y2 (⟨#[]⟩ : ByteArray) t23 t24 _ ?side1 ?side2 ?side3 A16.out).mono ?_); (case side1 => repeat (first | exact (Kd.R_reads' HO4.out).2.2 | (with_reducible refine Kd.C_alloc ?_ _) | (with_reducible refine Kd.C_drewN ?_ _) | (with_reducible refine Kd.C_drew ?_))); (case side2 => exact (Kd.R_reads' HO4.out).2.1); (case side3 => exact G.at hG.out (by repeat (first | (with_reducible first | exact HB.out | apply below_alloc | apply pw_below_drewN | apply below_drew1) | exact HB.out))); rintro e w32 ⟨rfl, hb⟩; refine ⟨_, rfl, ?_⟩; have n0_ := Aside0.mk (Kd.R_below (by (with_reducible repeat (first | apply Kd.R_alloc | apply Kd.R_drewN | apply Kd.R_drew)); exact HO4.out) hb); have n1_ := Aside0.mk (below_step (by repeat (first | (with_reducible first | exact HB.out | apply below_alloc | apply pw_below_drewN | apply below_drew1) | exact HB.out)) hb); clear HO4; clear HB; have HO4 := n0_; have HB := n1_; clear n0_ n1_; (try clear hb); (try clear hb2); (try clear hk); (try clear hi)) | ((with_reducible refine gate_callee (f := 6) rfl ?_); refine goesL_ (some 89) rfl rfl Tryz.func6 (by kernel_rfl) rfl #[.string t17] rfl (by (try simp only [List.map_toArray, List.map_cons, List.map_nil]); first | done | rfl | (simp only [List.length_drop, List.length_take]; rfl)) ?_; (with_reducible refine (quote_Unquote.calls t17 t25 t26 _ ?side1 A17.out).mono ?_); (case side1 => exact G.at hG.out (by repeat (first | (with_reducible first | exact HB.out | apply below_alloc | apply pw_below_drewN | apply below_drew1) | exact HB.out))); rintro e w33 ⟨rfl, hb⟩; refine ⟨_, rfl, ?_⟩; have n0_ := Aside0.mk (Kd.R_below (by (with_reducible repeat (first | apply Kd.R_alloc | apply Kd.R_drewN | apply Kd.R_drew)); exact HO4.out) hb); have n1_ := Aside0.mk (below_step (by repeat (first | (with_reducible first | exact HB.out | apply below_alloc | apply pw_below_drewN | apply below_drew1) | exact HB.out)) hb); clear HO4; clear HB; have HO4 := n0_; have HB := n1_; clear n0_ n1_; (try clear hb); (try clear hb2); (try clear hk); (try clear hi)))
        (try simp only [Act.put, List.setIfInBounds_toArray, List.set_cons_zero, List.set_cons_succ])
        go_cut [26] (fun v26 wc => ∃ (kq : Nat) (x26_17 : Bool), v26 = .bool x26_17 ∧ Aside0 (driftnetlaw19_FormsFunctions.j0 kq (a0.extract 0 ((ji4) : Int).toNat) t5 t7 t9 t11 t13 t15 t19 t21 t23 t25 t26 x26_17 = some r) ∧ Aside0 (kq ≤ k) ∧ Aside0 (Below w.heap.size w wc))
        case first =>
          have H := HC18.out
          clear HC18
          by_cases c34 : t13.toList = ([] : List UInt8)
          · rw [if_pos c34] at H
            have c34b0 : (t13.toList == ([] : List UInt8)) = true := beq_iff_eq.mpr c34
            have c34b1 : (t13.toList != ([] : List UInt8)) = false := bne_eq_false_iff_eq.mpr c34
            clear c34
            (first | rw [c34b0] | (simp only [i64_w, i32_w]; rw [c34b0]) | skip)
            have H' := Aside0.mk H
            clear H
            go_wp2
            go_meet
            case rel => exact ⟨_, (true), (by first | rfl | (simp; done) | (simp [*]; done)), H', ⟨by first | omega | exact Nat.le_refl _⟩, ⟨by repeat (first | (with_reducible first | exact HB.out | apply below_alloc | apply pw_below_drewN | apply below_drew1) | exact HB.out)⟩⟩
          · rw [if_neg c34] at H
            have c34b0 : (t13.toList == ([] : List UInt8)) = false := beq_eq_false_iff_ne.mpr c34
            have c34b1 : (t13.toList != ([] : List UInt8)) = true := bne_iff_ne.mpr c34
            (first | rw [c34b0] | (simp only [i64_w, i32_w]; rw [c34b0]) | skip)
            by_cases c35 : 0 < (t13.size : Int)
            · rw [if_pos c35] at H
              have c35b0 : decide (0 < (t13.size : Int)) = true := decide_eq_true c35
              have c35b1 : decide (0 < t13.size) = true := decide_eq_true (by omega)
              clear c35
              by_cases c37 : (bt t13 0) > 32
              · rw [if_pos c37] at H
                have c37b0 : decide (32 < (bt t13 0)) = true := decide_eq_true c37
                clear c37
                obtain ⟨ji38, hji38⟩ : ∃ j_ : Int, (wrap64 ((t13.size : Int) - 1)) = j_ := ⟨_, rfl⟩
                replace H : (if 0 ≤ (ji38) then (if (ji38) < (t13.size : Int) then (driftnetlaw19_FormsFunctions.j0 k (a0.extract 0 ((ji4) : Int).toNat) t5 t7 t9 t11 t13 t15 t19 t21 t23 t25 t26 (decide ((bt t13 (ji38)) > 32))) else (none)) else (none)) = some r := by first | (rw [hji38] at H; exact H) | (simp only [hji38] at H ⊢; exact H)
                have hji38w : (IntKind.i64.wrap ((t13.size : Int) - 1)) = ji38 := (i64_w _).trans hji38
                by_cases c39 : 0 ≤ (ji38)
                · rw [if_pos c39] at H
                  have c39b0 : decide (0 ≤ (ji38)) = true := decide_eq_true c39
                  clear c39
                  by_cases c40 : (ji38) < (t13.size : Int)
                  · rw [if_pos c40] at H
                    have c40b0 : decide ((ji38) < (t13.size : Int)) = true := decide_eq_true c40
                    clear c40
                    have H' := Aside0.mk H
                    clear H
                    have p36 : 0 ≤ (0 : Int) := (by omega)
                    have q36 : 0 < t13.size := (by have : (0 : Int) < (t13.size : Int) := of_decide_eq_true (by first | (with_reducible assumption) | assumption); omega)
                    have hx36 : ∀ h : 0 < t13.size, ((t13[0]'h).toNat : Int) = bt t13 0 := bt_at t13 0
                    clear p36
                    have qi36 : (0 < (t13.size : Int)) = True := eq_true (of_decide_eq_true (by first | (with_reducible assumption) | assumption))
                    replace q36 := eq_true q36
                    have p41 : 0 ≤ ((ji38) : Int) := of_decide_eq_true (by first | (with_reducible assumption) | assumption)
                    have q41 : (ji38) < (t13.size : Int) := of_decide_eq_true (by first | (with_reducible assumption) | assumption)
                    have hx41 := bt_at t13 (ji38)
                    replace p41 := eq_true p41
                    replace q41 := eq_true q41
                    go_wp2
                    go_meet
                    case rel => exact ⟨_, (decide ((bt t13 (ji38)) > 32)), (by first | rfl | (simp; done) | (simp only [← hji38] <;> (first | rfl | simp)) | (simp [*]; done)), H', ⟨by first | omega | exact Nat.le_refl _⟩, ⟨by repeat (first | (with_reducible first | exact HB.out | apply below_alloc | apply pw_below_drewN | apply below_drew1) | exact HB.out)⟩⟩
                  · rw [if_neg c40] at H
                    exact absurd H (by simp)
                · rw [if_neg c39] at H
                  exact absurd H (by simp)
              · rw [if_neg c37] at H
                have c37b0 : decide (32 < (bt t13 0)) = false := decide_eq_false c37
                clear c37
                have H' := Aside0.mk H
                clear H
                have p36 : 0 ≤ (0 : Int) := (by omega)
                have q36 : 0 < t13.size := (by have : (0 : Int) < (t13.size : Int) := of_decide_eq_true (by first | (with_reducible assumption) | assumption); omega)
                have hx36 : ∀ h : 0 < t13.size, ((t13[0]'h).toNat : Int) = bt t13 0 := bt_at t13 0
                clear p36
                have qi36 : (0 < (t13.size : Int)) = True := eq_true (of_decide_eq_true (by first | (with_reducible assumption) | assumption))
                replace q36 := eq_true q36
                go_wp2
                go_meet
                case rel => exact ⟨_, (false), (by first | rfl | (simp; done) | (simp [*]; done)), H', ⟨by first | omega | exact Nat.le_refl _⟩, ⟨by repeat (first | (with_reducible first | exact HB.out | apply below_alloc | apply pw_below_drewN | apply below_drew1) | exact HB.out)⟩⟩
            · rw [if_neg c35] at H
              exact absurd H (by simp)
        case rest =>
          clear HC18
          try clear c2
          try clear p2
          try clear c3
          try clear p3
          try clear q3
          try clear hx3
          try clear qi3
          try clear c4
          try clear p4
          try clear q4
          try clear hx4
          try clear c5
          try clear c5b0
          try clear c5b1
          try clear c6
          try clear c6b0
          try clear c6b1
          try clear p6
          try clear c34
          try clear c34b0
          try clear c34b1
          try clear c35
          try clear c35b0
          try clear c35b1
          try clear p36
          try clear q36
          try clear hx36
          try clear qi36
          try clear c37
          try clear c37b0
          try clear c39
          try clear c39b0
          try clear c40
          try clear c40b0
          try clear p41
          try clear q41
          try clear hx41
          try clear p36
          try clear p41
          try clear q36
          try clear q41
          obtain ⟨kq, x26_17, rfl, HA, HJ17, HB⟩ := hcut
          cases kq with
          | zero => exact absurd HA.out (by simp [driftnetlaw19_FormsFunctions.j0])
          | succ kj17 =>
            have H := HA.out
            clear HA
            simp only [driftnetlaw19_FormsFunctions.j0] at H
            by_cases c42 : t5.toList = t7.toList
            · rw [if_pos c42] at H
              have c42b0 : (t5.toList == t7.toList) = true := beq_iff_eq.mpr c42
              have c42b1 : (t5.toList != t7.toList) = false := bne_eq_false_iff_eq.mpr c42
              clear c42
              by_cases c43 : t9.toList = t11.toList
              · rw [if_pos c43] at H
                have c43b0 : (t9.toList == t11.toList) = true := beq_iff_eq.mpr c43
                have c43b1 : (t9.toList != t11.toList) = false := bne_eq_false_iff_eq.mpr c43
                clear c43
                by_cases c44 : t13.toList = t15.toList
                · rw [if_pos c44] at H
                  have c44b0 : (t13.toList == t15.toList) = true := beq_iff_eq.mpr c44
                  have c44b1 : (t13.toList != t15.toList) = false := bne_eq_false_iff_eq.mpr c44
                  clear c44
                  by_cases c45 : x26_17 = true
                  · subst c45
                    have H1 : ((strings_Contains.f (a0.extract 0 ((ji4) : Int).toNat) t13).bind fun t27 => (if t27 = true then (if t26 = 0 then (if t25.toList = (a0.extract 0 ((ji4) : Int).toNat).toList then ((strconv_Itoa.f ((a0.extract 0 ((ji4) : Int).toNat).size : Int)).bind fun t28 => (if t19.toList = t28.toList then (if t21.toList = t5.toList then ((quote_Quote.f t13).bind fun t29 => ((strconv_Itoa.f (t29.size : Int)).bind fun t30 => (if t23.toList = t30.toList then (some ((t5.size : Int) == ((a0.extract 0 ((ji4) : Int).toNat).size : Int))) else (some false)))) else (some false)) else (some false))) else (some false)) else (some false)) else (some false))) = some r := by rw [if_pos rfl] at H; exact H
                    clear H
                    have H := H1
                    clear H1
                    replace H := Option.bind_eq_some_iff.mp H
                    obtain ⟨t27, A460, H⟩ := H
                    replace H : (if t27 = true then (if t26 = 0 then (if t25.toList = (a0.extract 0 ((ji4) : Int).toNat).toList then ((strconv_Itoa.f ((a0.extract 0 ((ji4) : Int).toNat).size : Int)).bind fun t28 => (if t19.toList = t28.toList then (if t21.toList = t5.toList then ((quote_Quote.f t13).bind fun t29 => ((strconv_Itoa.f (t29.size : Int)).bind fun t30 => (if t23.toList = t30.toList then (some ((t5.size : Int) == ((a0.extract 0 ((ji4) : Int).toNat).size : Int))) else (some false)))) else (some false)) else (some false))) else (some false)) else (some false)) else (some false)) = some r := H
                    have A46 := Aside0.mk A460
                    clear A460
                    by_cases c47 : t27 = true
                    · subst c47
                      have H1 : (if t26 = 0 then (if t25.toList = (a0.extract 0 ((ji4) : Int).toNat).toList then ((strconv_Itoa.f ((a0.extract 0 ((ji4) : Int).toNat).size : Int)).bind fun t28 => (if t19.toList = t28.toList then (if t21.toList = t5.toList then ((quote_Quote.f t13).bind fun t29 => ((strconv_Itoa.f (t29.size : Int)).bind fun t30 => (if t23.toList = t30.toList then (some ((t5.size : Int) == ((a0.extract 0 ((ji4) : Int).toNat).size : Int))) else (some false)))) else (some false)) else (some false))) else (some false)) else (some false)) = some r := by rw [if_pos rfl] at H; exact H
                      clear H
                      have H := H1
                      clear H1
                      by_cases c48 : t26 = 0
                      · rw [if_pos c48] at H
                        have c48b0 : (t26 == 0) = true := beq_iff_eq.mpr c48
                        have c48b1 : (t26 != 0) = false := bne_eq_false_iff_eq.mpr c48
                        clear c48
                        by_cases c49 : t25.toList = (a0.extract 0 ((ji4) : Int).toNat).toList
                        · rw [if_pos c49] at H
                          have c49b0 : (t25.toList == (a0.extract 0 ((ji4) : Int).toNat).toList) = true := beq_iff_eq.mpr c49
                          have c49b1 : (t25.toList != (a0.extract 0 ((ji4) : Int).toNat).toList) = false := bne_eq_false_iff_eq.mpr c49
                          clear c49
                          replace H := Option.bind_eq_some_iff.mp H
                          obtain ⟨t28, A500, H⟩ := H
                          replace H : (if t19.toList = t28.toList then (if t21.toList = t5.toList then ((quote_Quote.f t13).bind fun t29 => ((strconv_Itoa.f (t29.size : Int)).bind fun t30 => (if t23.toList = t30.toList then (some ((t5.size : Int) == ((a0.extract 0 ((ji4) : Int).toNat).size : Int))) else (some false)))) else (some false)) else (some false)) = some r := H
                          have A50 := Aside0.mk A500
                          clear A500
                          by_cases c51 : t19.toList = t28.toList
                          · rw [if_pos c51] at H
                            have c51b0 : (t19.toList == t28.toList) = true := beq_iff_eq.mpr c51
                            have c51b1 : (t19.toList != t28.toList) = false := bne_eq_false_iff_eq.mpr c51
                            clear c51
                            by_cases c52 : t21.toList = t5.toList
                            · rw [if_pos c52] at H
                              have c52b0 : (t21.toList == t5.toList) = true := beq_iff_eq.mpr c52
                              have c52b1 : (t21.toList != t5.toList) = false := bne_eq_false_iff_eq.mpr c52
                              clear c52
                              replace H := Option.bind_eq_some_iff.mp H
                              obtain ⟨t29, A530, H⟩ := H
                              replace H : ((strconv_Itoa.f (t29.size : Int)).bind fun t30 => (if t23.toList = t30.toList then (some ((t5.size : Int) == ((a0.extract 0 ((ji4) : Int).toNat).size : Int))) else (some false))) = some r := H
                              have A53 := Aside0.mk A530
                              clear A530
                              replace H := Option.bind_eq_some_iff.mp H
                              obtain ⟨t30, A540, H⟩ := H
                              replace H : (if t23.toList = t30.toList then (some ((t5.size : Int) == ((a0.extract 0 ((ji4) : Int).toNat).size : Int))) else (some false)) = some r := H
                              have A54 := Aside0.mk A540
                              clear A540
                              by_cases c55 : t23.toList = t30.toList
                              · rw [if_pos c55] at H
                                have c55b0 : (t23.toList == t30.toList) = true := beq_iff_eq.mpr c55
                                have c55b1 : (t23.toList != t30.toList) = false := bne_eq_false_iff_eq.mpr c55
                                clear c55
                                obtain rfl := Option.some.inj H
                                go_wp2_with (first | (go_at_call 7; (with_reducible refine (strings_Contains.calls (a0.extract 0 ((ji4) : Int).toNat) t13 true _ ?side1 A46.out).mono ?_); (case side1 => exact G.at hG.out (by repeat (first | (with_reducible first | exact HB.out | apply below_alloc | apply pw_below_drewN | apply below_drew1) | exact HB.out))); rintro e w56 ⟨rfl, hb⟩; have n0_ := Aside0.mk (below_step (by repeat (first | (with_reducible first | exact HB.out | apply below_alloc | apply pw_below_drewN | apply below_drew1) | exact HB.out)) hb); clear HB; have HB := n0_; clear n0_; (try clear hb); (try clear hb2); (try clear hk); (try clear hi)) | (go_at_call 8; (with_reducible refine (strconv_Itoa.calls ((min ji4.toNat a0.size : Nat) : Int) t28 _ ?side1 (itoa_cut A50.out)).mono ?_); (case side1 => exact G.at hG.out (by repeat (first | (with_reducible first | exact HB.out | apply below_alloc | apply pw_below_drewN | apply below_drew1) | exact HB.out))); rintro e w57 ⟨rfl, hb⟩; have n0_ := Aside0.mk (below_step (by repeat (first | (with_reducible first | exact HB.out | apply below_alloc | apply pw_below_drewN | apply below_drew1) | exact HB.out)) hb); clear HB; have HB := n0_; clear n0_; (try clear hb); (try clear hb2); (try clear hk); (try clear hi)) | (go_at_call 9; (with_reducible refine (quote_Quote.calls t13 t29 _ ?side1 A53.out).mono ?_); (case side1 => exact G.at hG.out (by repeat (first | (with_reducible first | exact HB.out | apply below_alloc | apply pw_below_drewN | apply below_drew1) | exact HB.out))); rintro e w58 ⟨rfl, hb⟩; have n0_ := Aside0.mk (below_step (by repeat (first | (with_reducible first | exact HB.out | apply below_alloc | apply pw_below_drewN | apply below_drew1) | exact HB.out)) hb); clear HB; have HB := n0_; clear n0_; (try clear hb); (try clear hb2); (try clear hk); (try clear hi)) | (go_at_call 8; (with_reducible refine (strconv_Itoa.calls (t29.size : Int) t30 _ ?side1 A54.out).mono ?_); (case side1 => exact G.at hG.out (by repeat (first | (with_reducible first | exact HB.out | apply below_alloc | apply pw_below_drewN | apply below_drew1) | exact HB.out))); rintro e w59 ⟨rfl, hb⟩; have n0_ := Aside0.mk (below_step (by repeat (first | (with_reducible first | exact HB.out | apply below_alloc | apply pw_below_drewN | apply below_drew1) | exact HB.out)) hb); clear HB; have HB := n0_; clear n0_; (try clear hb); (try clear hb2); (try clear hk); (try clear hi)))
                                go_ret
                                exact ⟨by first | rfl | (simp [errW_none, errW_some] <;> rfl) | (simp only [← hji4]; first | rfl | (simp [errW_none, errW_some] <;> rfl)) | (simp [*, errW_none, errW_some] <;> rfl), by repeat (first | (with_reducible first | exact HB.out | apply below_alloc | apply pw_below_drewN | apply below_drew1) | exact HB.out)⟩
                              · rw [if_neg c55] at H
                                have c55b0 : (t23.toList == t30.toList) = false := beq_eq_false_iff_ne.mpr c55
                                have c55b1 : (t23.toList != t30.toList) = true := bne_iff_ne.mpr c55
                                obtain rfl := Option.some.inj H
                                go_wp2_with (first | (go_at_call 7; (with_reducible refine (strings_Contains.calls (a0.extract 0 ((ji4) : Int).toNat) t13 true _ ?side1 A46.out).mono ?_); (case side1 => exact G.at hG.out (by repeat (first | (with_reducible first | exact HB.out | apply below_alloc | apply pw_below_drewN | apply below_drew1) | exact HB.out))); rintro e w60 ⟨rfl, hb⟩; have n0_ := Aside0.mk (below_step (by repeat (first | (with_reducible first | exact HB.out | apply below_alloc | apply pw_below_drewN | apply below_drew1) | exact HB.out)) hb); clear HB; have HB := n0_; clear n0_; (try clear hb); (try clear hb2); (try clear hk); (try clear hi)) | (go_at_call 8; (with_reducible refine (strconv_Itoa.calls ((min ji4.toNat a0.size : Nat) : Int) t28 _ ?side1 (itoa_cut A50.out)).mono ?_); (case side1 => exact G.at hG.out (by repeat (first | (with_reducible first | exact HB.out | apply below_alloc | apply pw_below_drewN | apply below_drew1) | exact HB.out))); rintro e w61 ⟨rfl, hb⟩; have n0_ := Aside0.mk (below_step (by repeat (first | (with_reducible first | exact HB.out | apply below_alloc | apply pw_below_drewN | apply below_drew1) | exact HB.out)) hb); clear HB; have HB := n0_; clear n0_; (try clear hb); (try clear hb2); (try clear hk); (try clear hi)) | (go_at_call 9; (with_reducible refine (quote_Quote.calls t13 t29 _ ?side1 A53.out).mono ?_); (case side1 => exact G.at hG.out (by repeat (first | (with_reducible first | exact HB.out | apply below_alloc | apply pw_below_drewN | apply below_drew1) | exact HB.out))); rintro e w62 ⟨rfl, hb⟩; have n0_ := Aside0.mk (below_step (by repeat (first | (with_reducible first | exact HB.out | apply below_alloc | apply pw_below_drewN | apply below_drew1) | exact HB.out)) hb); clear HB; have HB := n0_; clear n0_; (try clear hb); (try clear hb2); (try clear hk); (try clear hi)) | (go_at_call 8; (with_reducible refine (strconv_Itoa.calls (t29.size : Int) t30 _ ?side1 A54.out).mono ?_); (case side1 => exact G.at hG.out (by repeat (first | (with_reducible first | exact HB.out | apply below_alloc | apply pw_below_drewN | apply below_drew1) | exact HB.out))); rintro e w63 ⟨rfl, hb⟩; have n0_ := Aside0.mk (below_step (by repeat (first | (with_reducible first | exact HB.out | apply below_alloc | apply pw_below_drewN | apply below_drew1) | exact HB.out)) hb); clear HB; have HB := n0_; clear n0_; (try clear hb); (try clear hb2); (try clear hk); (try clear hi)))
                                go_ret
                                exact ⟨by first | rfl | (simp [errW_none, errW_some] <;> rfl) | (simp only [← hji4]; first | rfl | (simp [errW_none, errW_some] <;> rfl)) | (simp [*, errW_none, errW_some] <;> rfl), by repeat (first | (with_reducible first | exact HB.out | apply below_alloc | apply pw_below_drewN | apply below_drew1) | exact HB.out)⟩
                            · rw [if_neg c52] at H
                              have c52b0 : (t21.toList == t5.toList) = false := beq_eq_false_iff_ne.mpr c52
                              have c52b1 : (t21.toList != t5.toList) = true := bne_iff_ne.mpr c52
                              obtain rfl := Option.some.inj H
                              go_wp2_with (first | (go_at_call 7; (with_reducible refine (strings_Contains.calls (a0.extract 0 ((ji4) : Int).toNat) t13 true _ ?side1 A46.out).mono ?_); (case side1 => exact G.at hG.out (by repeat (first | (with_reducible first | exact HB.out | apply below_alloc | apply pw_below_drewN | apply below_drew1) | exact HB.out))); rintro e w64 ⟨rfl, hb⟩; have n0_ := Aside0.mk (below_step (by repeat (first | (with_reducible first | exact HB.out | apply below_alloc | apply pw_below_drewN | apply below_drew1) | exact HB.out)) hb); clear HB; have HB := n0_; clear n0_; (try clear hb); (try clear hb2); (try clear hk); (try clear hi)) | (go_at_call 8; (with_reducible refine (strconv_Itoa.calls ((min ji4.toNat a0.size : Nat) : Int) t28 _ ?side1 (itoa_cut A50.out)).mono ?_); (case side1 => exact G.at hG.out (by repeat (first | (with_reducible first | exact HB.out | apply below_alloc | apply pw_below_drewN | apply below_drew1) | exact HB.out))); rintro e w65 ⟨rfl, hb⟩; have n0_ := Aside0.mk (below_step (by repeat (first | (with_reducible first | exact HB.out | apply below_alloc | apply pw_below_drewN | apply below_drew1) | exact HB.out)) hb); clear HB; have HB := n0_; clear n0_; (try clear hb); (try clear hb2); (try clear hk); (try clear hi)))
                              go_ret
                              exact ⟨by first | rfl | (simp [errW_none, errW_some] <;> rfl) | (simp only [← hji4]; first | rfl | (simp [errW_none, errW_some] <;> rfl)) | (simp [*, errW_none, errW_some] <;> rfl), by repeat (first | (with_reducible first | exact HB.out | apply below_alloc | apply pw_below_drewN | apply below_drew1) | exact HB.out)⟩
                          · rw [if_neg c51] at H
                            have c51b0 : (t19.toList == t28.toList) = false := beq_eq_false_iff_ne.mpr c51
                            have c51b1 : (t19.toList != t28.toList) = true := bne_iff_ne.mpr c51
                            obtain rfl := Option.some.inj H
                            go_wp2_with (first | (go_at_call 7; (with_reducible refine (strings_Contains.calls (a0.extract 0 ((ji4) : Int).toNat) t13 true _ ?side1 A46.out).mono ?_); (case side1 => exact G.at hG.out (by repeat (first | (with_reducible first | exact HB.out | apply below_alloc | apply pw_below_drewN | apply below_drew1) | exact HB.out))); rintro e w66 ⟨rfl, hb⟩; have n0_ := Aside0.mk (below_step (by repeat (first | (with_reducible first | exact HB.out | apply below_alloc | apply pw_below_drewN | apply below_drew1) | exact HB.out)) hb); clear HB; have HB := n0_; clear n0_; (try clear hb); (try clear hb2); (try clear hk); (try clear hi)) | (go_at_call 8; (with_reducible refine (strconv_Itoa.calls ((min ji4.toNat a0.size : Nat) : Int) t28 _ ?side1 (itoa_cut A50.out)).mono ?_); (case side1 => exact G.at hG.out (by repeat (first | (with_reducible first | exact HB.out | apply below_alloc | apply pw_below_drewN | apply below_drew1) | exact HB.out))); rintro e w67 ⟨rfl, hb⟩; have n0_ := Aside0.mk (below_step (by repeat (first | (with_reducible first | exact HB.out | apply below_alloc | apply pw_below_drewN | apply below_drew1) | exact HB.out)) hb); clear HB; have HB := n0_; clear n0_; (try clear hb); (try clear hb2); (try clear hk); (try clear hi)))
                            go_ret
                            exact ⟨by first | rfl | (simp [errW_none, errW_some] <;> rfl) | (simp only [← hji4]; first | rfl | (simp [errW_none, errW_some] <;> rfl)) | (simp [*, errW_none, errW_some] <;> rfl), by repeat (first | (with_reducible first | exact HB.out | apply below_alloc | apply pw_below_drewN | apply below_drew1) | exact HB.out)⟩
                        · rw [if_neg c49] at H
                          have c49b0 : (t25.toList == (a0.extract 0 ((ji4) : Int).toNat).toList) = false := beq_eq_false_iff_ne.mpr c49
                          have c49b1 : (t25.toList != (a0.extract 0 ((ji4) : Int).toNat).toList) = true := bne_iff_ne.mpr c49
                          obtain rfl := Option.some.inj H
                          go_wp2_with (first | (go_at_call 7; (with_reducible refine (strings_Contains.calls (a0.extract 0 ((ji4) : Int).toNat) t13 true _ ?side1 A46.out).mono ?_); (case side1 => exact G.at hG.out (by repeat (first | (with_reducible first | exact HB.out | apply below_alloc | apply pw_below_drewN | apply below_drew1) | exact HB.out))); rintro e w68 ⟨rfl, hb⟩; have n0_ := Aside0.mk (below_step (by repeat (first | (with_reducible first | exact HB.out | apply below_alloc | apply pw_below_drewN | apply below_drew1) | exact HB.out)) hb); clear HB; have HB := n0_; clear n0_; (try clear hb); (try clear hb2); (try clear hk); (try clear hi)))
                          go_ret
                          exact ⟨by first | rfl | (simp [errW_none, errW_some] <;> rfl) | (simp only [← hji4]; first | rfl | (simp [errW_none, errW_some] <;> rfl)) | (simp [*, errW_none, errW_some] <;> rfl), by repeat (first | (with_reducible first | exact HB.out | apply below_alloc | apply pw_below_drewN | apply below_drew1) | exact HB.out)⟩
                      · rw [if_neg c48] at H
                        have c48b0 : (t26 == 0) = false := beq_eq_false_iff_ne.mpr c48
                        have c48b1 : (t26 != 0) = true := bne_iff_ne.mpr c48
                        obtain rfl := Option.some.inj H
                        go_wp2_with (first | (go_at_call 7; (with_reducible refine (strings_Contains.calls (a0.extract 0 ((ji4) : Int).toNat) t13 true _ ?side1 A46.out).mono ?_); (case side1 => exact G.at hG.out (by repeat (first | (with_reducible first | exact HB.out | apply below_alloc | apply pw_below_drewN | apply below_drew1) | exact HB.out))); rintro e w69 ⟨rfl, hb⟩; have n0_ := Aside0.mk (below_step (by repeat (first | (with_reducible first | exact HB.out | apply below_alloc | apply pw_below_drewN | apply below_drew1) | exact HB.out)) hb); clear HB; have HB := n0_; clear n0_; (try clear hb); (try clear hb2); (try clear hk); (try clear hi)))
                        go_ret
                        exact ⟨by first | rfl | (simp [errW_none, errW_some] <;> rfl) | (simp only [← hji4]; first | rfl | (simp [errW_none, errW_some] <;> rfl)) | (simp [*, errW_none, errW_some] <;> rfl), by repeat (first | (with_reducible first | exact HB.out | apply below_alloc | apply pw_below_drewN | apply below_drew1) | exact HB.out)⟩
                    · replace c47 := Bool.eq_false_iff.mpr c47
                      subst c47
                      have H1 : (some false) = some r := by rw [if_neg (show ¬ (false = true) by decide)] at H; exact H
                      clear H
                      have H := H1
                      clear H1
                      obtain rfl := Option.some.inj H
                      go_wp2_with (first | (go_at_call 7; (with_reducible refine (strings_Contains.calls (a0.extract 0 ((ji4) : Int).toNat) t13 false _ ?side1 A46.out).mono ?_); (case side1 => exact G.at hG.out (by repeat (first | (with_reducible first | exact HB.out | apply below_alloc | apply pw_below_drewN | apply below_drew1) | exact HB.out))); rintro e w70 ⟨rfl, hb⟩; have n0_ := Aside0.mk (below_step (by repeat (first | (with_reducible first | exact HB.out | apply below_alloc | apply pw_below_drewN | apply below_drew1) | exact HB.out)) hb); clear HB; have HB := n0_; clear n0_; (try clear hb); (try clear hb2); (try clear hk); (try clear hi)))
                      go_ret
                      exact ⟨by first | rfl | (simp [errW_none, errW_some] <;> rfl) | (simp only [← hji4]; first | rfl | (simp [errW_none, errW_some] <;> rfl)) | (simp [*, errW_none, errW_some] <;> rfl), by repeat (first | (with_reducible first | exact HB.out | apply below_alloc | apply pw_below_drewN | apply below_drew1) | exact HB.out)⟩
                  · replace c45 := Bool.eq_false_iff.mpr c45
                    subst c45
                    have H1 : (some false) = some r := by rw [if_neg (show ¬ (false = true) by decide)] at H; exact H
                    clear H
                    have H := H1
                    clear H1
                    obtain rfl := Option.some.inj H
                    go_wp2
                    go_ret
                    exact ⟨by first | rfl | (simp [errW_none, errW_some] <;> rfl) | (simp only [← hji4]; first | rfl | (simp [errW_none, errW_some] <;> rfl)) | (simp [*, errW_none, errW_some] <;> rfl), by repeat (first | (with_reducible first | exact HB.out | apply below_alloc | apply pw_below_drewN | apply below_drew1) | exact HB.out)⟩
                · rw [if_neg c44] at H
                  have c44b0 : (t13.toList == t15.toList) = false := beq_eq_false_iff_ne.mpr c44
                  have c44b1 : (t13.toList != t15.toList) = true := bne_iff_ne.mpr c44
                  obtain rfl := Option.some.inj H
                  go_wp2
                  go_ret
                  exact ⟨by first | rfl | (simp [errW_none, errW_some] <;> rfl) | (simp only [← hji4]; first | rfl | (simp [errW_none, errW_some] <;> rfl)) | (simp [*, errW_none, errW_some] <;> rfl), by repeat (first | (with_reducible first | exact HB.out | apply below_alloc | apply pw_below_drewN | apply below_drew1) | exact HB.out)⟩
              · rw [if_neg c43] at H
                have c43b0 : (t9.toList == t11.toList) = false := beq_eq_false_iff_ne.mpr c43
                have c43b1 : (t9.toList != t11.toList) = true := bne_iff_ne.mpr c43
                obtain rfl := Option.some.inj H
                go_wp2
                go_ret
                exact ⟨by first | rfl | (simp [errW_none, errW_some] <;> rfl) | (simp only [← hji4]; first | rfl | (simp [errW_none, errW_some] <;> rfl)) | (simp [*, errW_none, errW_some] <;> rfl), by repeat (first | (with_reducible first | exact HB.out | apply below_alloc | apply pw_below_drewN | apply below_drew1) | exact HB.out)⟩
            · rw [if_neg c42] at H
              have c42b0 : (t5.toList == t7.toList) = false := beq_eq_false_iff_ne.mpr c42
              have c42b1 : (t5.toList != t7.toList) = true := bne_iff_ne.mpr c42
              obtain rfl := Option.some.inj H
              go_wp2
              go_ret
              exact ⟨by first | rfl | (simp [errW_none, errW_some] <;> rfl) | (simp only [← hji4]; first | rfl | (simp [errW_none, errW_some] <;> rfl)) | (simp [*, errW_none, errW_some] <;> rfl), by repeat (first | (with_reducible first | exact HB.out | apply below_alloc | apply pw_below_drewN | apply below_drew1) | exact HB.out)⟩
      · rw [if_neg c6] at H
        exact absurd H (by simp)
    · rw [if_neg c5] at H
      exact absurd H (by simp)
  · replace c3 := Bool.eq_false_iff.mpr c3
    subst c3
    have H1 : (some false) = some r := by rw [if_neg (show ¬ (false = true) by decide)] at H; exact H
    clear H
    have H := H1
    clear H1
    obtain rfl := Option.some.inj H
    go_enter Tryz.func3, Tryz.ntmps3
    go_wp2_with (first | ((with_reducible refine gate_callee (f := 4) rfl ?_); refine goesL_ (some 27) rfl rfl Tryz.func4 (by kernel_rfl) rfl #[] rfl (by (try simp only [List.map_toArray, List.map_cons, List.map_nil]); first | done | rfl | (simp only [List.length_drop, List.length_take]; rfl)) ?_; (with_reducible refine (driftnetlaw19_works.calls  false _ ?side1 A2.out).mono ?_); (case side1 => exact G.at hG.out (by repeat (first | (with_reducible first | exact HB.out | apply below_alloc | apply pw_below_drewN | apply below_drew1) | exact HB.out))); rintro e w71 ⟨rfl, hb⟩; refine ⟨_, rfl, ?_⟩; have n0_ := Aside0.mk (below_step (by repeat (first | (with_reducible first | exact HB.out | apply below_alloc | apply pw_below_drewN | apply below_drew1) | exact HB.out)) hb); clear HB; have HB := n0_; clear n0_; (try clear hb); (try clear hb2); (try clear hk); (try clear hi)))
    go_ret
    exact ⟨by first | rfl | (simp [errW_none, errW_some] <;> rfl) | (simp [*, errW_none, errW_some] <;> rfl), by repeat (first | (with_reducible first | exact HB.out | apply below_alloc | apply pw_below_drewN | apply below_drew1) | exact HB.out)⟩
/-- THE ONE PURE STATEMENT of driftnetlaw19_FormsFunctions: yours. -/
def driftnetlaw19_FormsFunctions.Pure : Prop := ∀ (a0 : ByteArray), a0.size ≤ 140737488351232 → ∃ k, driftnetlaw19_FormsFunctions.f k a0 = some true
theorem driftnetlaw19_FormsFunctions.walk (P : driftnetlaw19_FormsFunctions.Pure) (a0 : ByteArray) (w : World) (hG : Aside0 (G w)) (w0 : a0.size ≤ 140737488351232) :
    Calls Tryz.prog 3 #[.string a0] w fun e w' => e = .returned (.bool true) ∧ Below w.heap.size w w' := by
  obtain ⟨k, h⟩ := P a0 w0
  refine (driftnetlaw19_FormsFunctions.calls k a0 true w hG h).mono ?_
  rintro e w' ⟨rfl, hd⟩
  exact ⟨rfl, hd⟩
end Go.Proofs.YtfojidcbcpkpmaaGreatDoor.P
end
section
namespace Go.Proofs.YtfojidcbcpkpmaaGreatDoor.formsFunctions
open Go Go.ChangeShapes Go.WideShapes Go.ChangeAt Go.RowKit
open Go.ChangeMaps (open_string shut_string)
set_option linter.unusedVariables false
theorem own : ownKnob Tryz.prog.godebug = none := by kernel_rfl
/-- As 'returnsInHanded_of_change_and'; the contract is handed the world's shape too. -/
theorem returnsInHanded_of_change_and_shaped {H : Type} {enc : TypeId × Value → H} {a : Assume} {C : Checked} {os : Os} {f : FuncId} {fn : Func} {s : ChangeSpec} {conds : List PathCond} {apart fresh handsOn again : Bool} {X : World → Array Value → Prop}
    (hX : ∀ (w w' : World) (args : Array Value), w.heap = w'.heap → X w args → X w' args)
    (own : ownKnob C.prog.godebug = none) (started : os.Started) (noInit : C.prog.inits.idxOf? f = none) (hfn : C.prog.funcs[f]? = some fn)
    (witness : ∃ (w : World) (tape : Tape) (i : Input), w.os = os ∧ (w.forCall tape i).Shaped C.prog ∧ i.vars = [] ∧ Input.okWide C.prog (w.forCall tape i) .any w.heap.size f i ∧
      ((s.pre enc C.prog fn conds apart (w.forCall tape i).memory i.args ∧ X (w.forCall tape i).memory i.args) ∧ sizedMet enc C.prog fn (OpenSpec.ofChange s) apart (w.forCall tape i).memory i.args) ∧ a.holds C.prog (lone (Frame.enter C.prog f i.args .normal) [] (w.forCall tape i)))
    (contract : ∀ (W : World) (base : Nat) (args : Array Value) (ds gs : List (DataW H)) (before : List MemPlace),
      (∀ (j : Nat) t v, fn.params[j]? = some t → args[j]? = some v → Value.okWide C.prog W .any base t v) →
      DataW.Whole enc C.prog fn.params.toList s.vars apart W args.toList ds gs before →
      conds.all (PathCond.test C.prog ⟨fn.params.toList, ds, s.plain.varTypes C.prog, gs⟩) = true →
      (DataW.weightsEach C.prog (fn.params.toList ++ s.plain.varTypes C.prog) (ds ++ gs)).all (· ≤ reachBytes) = true → W.ShapedOpen C.prog → X W args →
      a.holds C.prog (lone (Frame.enter C.prog f args .normal) [] W) →
      Calls C.prog f args W fun e W' => ∃ v, e = .returned v ∧ s.post enc C.prog fn apart fresh handsOn again W args v W') :
    ReturnsInHanded a C os f .any (fun w args => (s.pre enc C.prog fn conds apart w args ∧ X w args) ∧ sizedMet enc C.prog fn (OpenSpec.ofChange s) apart w args) (s.post enc C.prog fn apart fresh handsOn again) := by
  refine returnsInHanded_of_calls own started noInit witness ?_
  intro w tape i _ hsh _ hok hpre hholds
  obtain ⟨_, _, _, fn', hfn', _, _, _, _, hval⟩ := hok
  have e : fn' = fn := Option.some.inj (hfn'.symm.trans hfn)
  subst e
  obtain ⟨⟨⟨ds, gs, before, hw, hc⟩, hx⟩, hz⟩ := hpre
  have hw' := DataW.Whole.of_heap (w' := w.forCall tape i) (by rfl) hw
  refine (contract (w.forCall tape i) w.heap.size i.args ds gs before hval hw' hc (hz.weights hw) hsh (hX _ _ _ (by rfl) hx) hholds).mono fun e W' ⟨v, he, hp⟩ => ?_
  subst he
  exact ChangeSpec.post_blind hp
set_option maxRecDepth 100000 in
theorem lifted (PU : P.driftnetlaw19_FormsFunctions.Pure) (os : Os) (started : os.Started) (H : Type) (enc : TypeId × Value → H) :
    ReturnsInHanded {} Tryz.checked os 3 .any (fun w args => (Rows.formsFunctionsSpec.pre enc Tryz.prog Tryz.f3 Rows.formsFunctionsRow.domain false w args ∧ laidMetH Tryz.prog Rows.formsFunctionsRow.laid w) ∧ sizedMet enc Tryz.prog Tryz.f3 (OpenSpec.ofChange Rows.formsFunctionsSpec) false w args)
      (Rows.formsFunctionsSpec.post enc Tryz.prog Tryz.f3 false true false false) := by
  refine returnsInHanded_of_change_and_shaped (C := Tryz.checked) (X := fun w _ => laidMetH Tryz.prog laidL w) (fun _ _ _ hh h => h.of_heap hh) own started (by kernel_rfl) Tryz.func3
    (ChangeSpec.witness_shaped (enc := enc) (C := Tryz.checked) (os := os) (X := fun w _ => laidMetH Tryz.prog laidL w) false (world0 os) #[.string ⟨#[]⟩] 8 (world0_os _)
      (World.shaped_of_ZipB (by kernel_rfl) (by kernel_rfl)) (by kernel_rfl) (by kernel_rfl) (by kernel_rfl) (world0_met os _)) ?_
  intro W base args ds gs before hval0 hW hcnd hsz0 hS hL _
  have hsz : (DataW.weightsEach Tryz.prog (Tryz.f3.params.toList ++ Rows.formsFunctionsSpec.plain.varTypes Tryz.prog) (ds ++ gs)).all (· ≤ reachBytes) = true := hsz0
  have hval : ∀ (j : Nat) t v, Tryz.f3.params[j]? = some t → args[j]? = some v → Value.okWide Tryz.prog W .any base t v := hval0
  have hW' := hW
  obtain ⟨p, q, hA0, hV, rfl, hfz, hnd⟩ := hW
  have hA : DataW.TrodAll enc Tryz.prog W 0 (fun _ => true) true Tryz.f3.params.toList args.toList ds p := hA0
  rw [Tryz.params3] at hA hval hsz
  obtain ⟨v0, vs0, d0, ds0, p0, q0, hargs, rfl, rfl, h0, r0⟩ := trodAll_cons hA
  obtain ⟨rfl, rfl, rfl⟩ := trodAll_nil r0
  obtain rfl : args = #[v0] := by cases args; simp_all
  obtain ⟨rfl, rfl⟩ := trodVars_none hV
  obtain ⟨a0, rfl, rfl, rfl, y0⟩ := open_string Tryz.underlying9 (hval 0 9 v0 rfl rfl) h0
  have w0 : a0.size ≤ 140737488351232 := by
    have z := sized_string hsz (j := 0) (t := 9) rfl rfl
    rw [Array.length_toList] at z
    exact z
  clear hA0 hval0 hsz0 hsz
  refine (P.driftnetlaw19_FormsFunctions.walk PU a0 W ⟨G_of_laid hL hS⟩ w0).mono fun e W' ⟨he, bel⟩ => ?_
  subst he
  exact ⟨_, rfl, _, _, _, [], _, [], hW', trodAll_mk1 (shut_bool Tryz.underlying4 _), (trodAll_cons_mk (shut_string Tryz.underlying9 y0) trodAll_mk0), rfl, bel.frame _, fun h => by cases h⟩
theorem over (PU : P.driftnetlaw19_FormsFunctions.Pure) : Rows.FormsFunctionsSaid :=
  OpenClaim.holds_of_wide 3 Tryz.f3 rfl rfl rfl rfl rfl rfl rfl ⟨rfl, rfl, rfl, rfl, rfl⟩ rfl rfl rfl rfl rfl (by kernel_rfl) Tryz.func3 (by kernel_rfl)
    (of_decide_eq_true (by kernel_rfl)) (by unfold Func.isWrapper; first | (rw [if_pos (by decide +kernel)]; kernel_rfl) | (rw [if_neg (by decide +kernel)]; exact ⟨rfl, rfl⟩))
    (fun os started H enc _ => lifted PU os started H enc)
theorem card_of (PU : P.driftnetlaw19_FormsFunctions.Pure) : Rows.FormsFunctionsCardSaid :=
  Claim7.holds_tied_plain_at .later [] Rows.formsFunctionsCard.laidKinds true Rows.formsFunctionsCard.stood.harness Rows.formsFunctionsCard.stood.looks (over PU) (fun _ h => by cases h) (by kernel_rfl) (fun _ h => by cases h) formsFunctions_row_tie rfl ⟨rfl, rfl⟩ (by kernel_rfl) rfl
    (fun f fn hf hfn => by
      obtain rfl : f = 3 := Option.some.inj ((show Tryz.prog.funcNamed "driftnet/driftnetlaw19.FormsFunctions" = some 3 by kernel_rfl).symm.trans hf) |>.symm
      obtain rfl : fn = Tryz.f3 := (Option.some.inj (Tryz.func3.symm.trans hfn)).symm
      exact ⟨by kernel_rfl, fun j t ht => by
        rw [Tryz.params3] at ht
        have hm : t ∈ [9] := by simpa using Array.mem_of_getElem? ht
        have hall : ([9].all fun u => !Tryz.prog.wantsStandIn u) = true := by kernel_rfl
        exact (show Tryz.prog.wantsStandIn t = false by simpa using List.all_eq_true.1 hall t hm)⟩)
    (by kernel_rfl)
end Go.Proofs.YtfojidcbcpkpmaaGreatDoor.formsFunctions
end
section
set_option linter.unusedVariables false
namespace Go.Proofs.YtfojidcbcpkpmaaGreatDoor
open Go Go.RowKit Go.Lib Go.Proofs.YtfojidcbcpkpmaaGreatDoorW.PrintWords Go.Proofs.YtfojidcbcpkpmaaGreatDoorW.PrintLast Go.Proofs.YtfojidcbcpkpmaaGreatDoorW.PrintMore Go.Proofs.YtfojidcbcpkpmaaGreatDoor.P
def lowB (b : UInt8) : Bool := decide (b.toNat ≤ 32)
def lstrip (l : List UInt8) : List UInt8 := l.dropWhile lowB
def rstrip (l : List UInt8) : List UInt8 := (l.reverse.dropWhile lowB).reverse
/-- The rune at a byte is small just where the byte is; it is one byte wide then. -/
theorem small_at (s : ByteArray) (pos : Nat) (h : pos < s.size) : smallR (Utf8.decode s pos).1 = lowB (s[pos]'h) ∧ (lowB (s[pos]'h) = true → (Utf8.decode s pos).2 = 1) := by
  unfold lowB smallR
  by_cases ha : (s[pos]'h).toNat < 128
  · rw [Go.decode_ascii s pos h ha]
    exact ⟨rfl, fun _ => rfl⟩
  · have hd := (Go.decode_high s pos h (by omega)).1
    refine ⟨?_, fun hl => ?_⟩
    · rw [decide_eq_false (by omega), decide_eq_false (by omega)]
    · have := of_decide_eq_true hl; omega
theorem drop_cons (s : ByteArray) (pos : Nat) (h : pos < s.size) : s.data.toList.drop pos = s[pos]'h :: s.data.toList.drop (pos + 1) := by
  rw [List.drop_eq_getElem_cons (by rw [← Lib.size_eq]; exact h)]
  congr 1
theorem idx_strip (s : ByteArray) : ∀ (f pos : Nat), s.size ≤ pos + f →
    lstrip (s.data.toList.drop pos) = if idxFuncFrom smallR false s f pos = -1 then [] else s.data.toList.drop (idxFuncFrom smallR false s f pos).toNat
  | 0, pos, h => by
    have : s.data.toList.drop pos = [] := List.drop_eq_nil_of_le (by rw [← Lib.size_eq]; omega)
    simp [lstrip, idxFuncFrom, this]
  | f + 1, pos, h => by
    by_cases hp : pos < s.size
    · obtain ⟨h1, h2⟩ := small_at s pos hp
      simp only [idxFuncFrom, if_pos hp, h1]
      rw [drop_cons s pos hp]
      unfold lstrip
      rw [List.dropWhile_cons]
      cases hl : lowB (s[pos]'hp) with
      | true =>
        rw [h2 hl]
        simp only [Bool.true_eq_false, if_false, if_true]
        exact idx_strip s f (pos + 1) (by omega)
      | false =>
        simp only [Bool.false_eq_true, if_false, if_true]
        rw [if_neg (by omega), Int.toNat_natCast, drop_cons s pos hp]
    · have : s.data.toList.drop pos = [] := List.drop_eq_nil_of_le (by rw [← Lib.size_eq]; omega)
      rw [this, idxFuncFrom_end _ _ _ _ _ hp, if_pos rfl]
      rfl
theorem trimLeft_eq (s : ByteArray) : (trimLeftF smallR s).data.toList = lstrip s.data.toList := by
  have h := idx_strip s s.size 0 (by omega)
  rw [List.drop_zero] at h
  rw [h]
  unfold trimLeftF idxFunc
  split
  · rfl
  · rw [Lib.extract_data, List.take_of_length_le (by rw [List.length_drop, ← Lib.size_eq]; exact Nat.le_refl _)]
theorem decodeL_high (l : List UInt8) (h : 128 ≤ (l.getD 0 0).toNat) : 128 ≤ (decodeL l).1 := by
  cases l with
  | nil => exact absurd h (by decide)
  | cons b t => exact decode_high b t h
/-- The last rune up to i is small just where the last byte is; it is one byte wide then. -/
theorem small_last (l : List UInt8) (i : Nat) (hi : 0 < i) (hil : i ≤ l.length) :
    smallR (decodeLastL (l.take i)).1 = lowB (l.getD (i - 1) 0) ∧ (lowB (l.getD (i - 1) 0) = true → (decodeLastL (l.take i)).2 = 1) := by
  unfold lowB smallR
  rcases last_cases l i hi hil with ⟨ha, hd⟩ | ⟨ha, hd⟩ | ⟨ha, st, hst, hd, hsum⟩
  · rw [hd]; exact ⟨rfl, fun _ => rfl⟩
  · rw [hd]
    refine ⟨?_, fun hl => rfl⟩
    rw [decide_eq_false (by omega), decide_eq_false (by omega)]
  · have hh : 128 ≤ (decodeLastL (l.take i)).1 := by
      rw [hd]
      have hg : ((l.take i).drop st).getD 0 0 = l.getD st 0 := by rw [getD_dropU, Nat.add_zero, getD_takeU l i st hst]
      by_cases hc : (l.getD st 0).toNat < 128
      · exfalso
        rw [decodeL_N, decodeN_ascii _ _ _ _ _ (by rw [hg]; exact hc)] at hsum
        have : st = i - 1 := by simp only at hsum; omega
        rw [this] at hc
        omega
      · exact decodeL_high _ (by rw [hg]; omega)
    refine ⟨?_, fun hl => ?_⟩
    · rw [decide_eq_false (by omega), decide_eq_false (by omega)]
    · have := of_decide_eq_true hl; omega
theorem rstrip_snoc (l : List UInt8) (b : UInt8) : rstrip (l ++ [b]) = if lowB b = true then rstrip l else l ++ [b] := by
  unfold rstrip
  rw [List.reverse_append, List.reverse_singleton, List.singleton_append, List.dropWhile_cons]
  split
  · rfl
  · rw [List.reverse_cons, List.reverse_reverse]
theorem getD_in (l : List UInt8) (i : Nat) (h : i < l.length) : l.getD i 0 = l[i] := by simp [List.getD, h]
theorem take_snoc (l : List UInt8) (i : Nat) (hi : 0 < i) (hil : i ≤ l.length) : l.take i = l.take (i - 1) ++ [l.getD (i - 1) 0] := by
  obtain ⟨j, rfl⟩ : ∃ j, i = j + 1 := ⟨i - 1, by omega⟩
  rw [List.take_succ_eq_append_getElem (by omega), Nat.add_sub_cancel, getD_in _ _ (by omega)]
theorem last_strip (s : ByteArray) : ∀ (f i : Nat), i ≤ f → i ≤ s.data.toList.length → OpenAt s.data.toList i →
    rstrip (s.data.toList.take i) = s.data.toList.take (if 0 ≤ lastIdxFuncFrom smallR false s f i then (lastIdxFuncFrom smallR false s f i).toNat + (decodeL (s.data.toList.drop (lastIdxFuncFrom smallR false s f i).toNat)).2 else 0)
  | 0, i, hf, _, _ => by
    obtain rfl : i = 0 := by omega
    simp [rstrip, lastIdxFuncFrom]
  | f + 1, i, hf, hil, ho => by
    by_cases hi : 0 < i
    · have hlen : (s.data.toList.take i).length = i := by rw [List.length_take]; omega
      have hw := decodeLastL_width (s.data.toList.take i) (by omega)
      rw [hlen] at hw
      obtain ⟨h1, h2⟩ := small_last s.data.toList i hi hil
      simp only [lastIdxFuncFrom, if_pos hi, h1]
      rw [take_snoc _ i hi hil, rstrip_snoc, ← take_snoc _ i hi hil]
      cases hl : lowB (s.data.toList.getD (i - 1) 0) with
      | true =>
        rw [h2 hl]
        simp only [Bool.true_eq_false, if_false, if_true]
        have hlt := of_decide_eq_true (show decide ((s.data.toList.getD (i - 1) 0).toNat ≤ 32) = true from hl)
        exact last_strip s f _ (by omega) (by omega) (.inr (by omega))
      | false =>
        simp only [Bool.false_eq_true, if_false, if_true]
        rw [if_pos (by omega), Int.toNat_natCast, fw_width _ i hi hil ho, Nat.sub_add_cancel hw.2]
    · obtain rfl : i = 0 := by omega
      rw [lastIdxFuncFrom_zero]
      simp [rstrip]
theorem lastIdx_lt (s : ByteArray) : ∀ (f i : Nat), i ≤ s.size → lastIdxFuncFrom smallR false s f i = -1 ∨ (0 ≤ lastIdxFuncFrom smallR false s f i ∧ lastIdxFuncFrom smallR false s f i < i)
  | 0, _, _ => .inl rfl
  | f + 1, i, hi => by
    unfold lastIdxFuncFrom
    split
    · rename_i h0
      have hw := decodeLastL_width (s.data.toList.take i) (by rw [List.length_take, ← Lib.size_eq]; omega)
      rw [List.length_take, ← Lib.size_eq, Nat.min_eq_left hi] at hw
      split
      · exact .inr ⟨by omega, by omega⟩
      · rcases lastIdx_lt s f (i - (decodeLastL (s.data.toList.take i)).2) (by omega) with h | h
        · exact .inl h
        · exact .inr ⟨h.1, by omega⟩
    · exact .inl rfl
theorem trimRight_eq (s : ByteArray) : (trimRightF smallR s).data.toList = rstrip s.data.toList := by
  have h := last_strip s s.size s.size (Nat.le_refl _) (by rw [← Lib.size_eq]; exact Nat.le_refl _) (.inl (Lib.size_eq s))
  rw [List.take_of_length_le (by rw [← Lib.size_eq]; exact Nat.le_refl _)] at h
  rw [h]
  unfold trimRightF rightEndF lastIdxFunc
  rw [Lib.extract_data, List.drop_zero, Nat.sub_zero]
  congr 1
  split
  · rename_i h0
    congr 2
    rcases lastIdx_lt s s.size s.size (Nat.le_refl _) with hm | hlt
    · omega
    · have hx : s.extract (lastIdxFuncFrom smallR false s s.size s.size).toNat s.size = ⟨(s.data.toList.drop (lastIdxFuncFrom smallR false s s.size s.size).toNat).toArray⟩ := by
        rw [Lib.extract_eq, List.take_of_length_le (by rw [List.length_drop, ← Lib.size_eq]; exact Nat.le_refl _)]
      have hxs : (⟨(s.data.toList.drop (lastIdxFuncFrom smallR false s s.size s.size).toNat).toArray⟩ : ByteArray).size ≠ 0 := by
        rw [Lib.size_eq]
        simp only [List.length_drop]
        rw [← Lib.size_eq]
        omega
      rw [hx]
      unfold decodeGoB decodeL
      rw [if_neg hxs]
  · rfl
theorem trimP_eq (s : ByteArray) : (trimP s).data.toList = rstrip (lstrip s.data.toList) := by
  unfold trimP Lib.trimF
  rw [trimRight_eq, trimLeft_eq]
theorem lstrip_head (l : List UInt8) : ∀ b t, lstrip l = b :: t → lowB b = false := by
  induction l with
  | nil => intro b t h; cases h
  | cons a l ih =>
    intro b t h
    unfold lstrip at h
    rw [List.dropWhile_cons] at h
    split at h
    · exact ih b t h
    · rename_i hn
      cases h
      simpa using hn
theorem rstrip_pre (l : List UInt8) : ∃ k, k ≤ l.length ∧ rstrip l = l.take k := by
  induction h : l.length generalizing l with
  | zero => exact ⟨0, by omega, by have : l = [] := List.eq_nil_of_length_eq_zero h; subst this; rfl⟩
  | succ n ih =>
    have e := take_snoc l (n + 1) (by omega) (by omega)
    rw [List.take_of_length_le (by omega), Nat.add_sub_cancel] at e
    rw [e, rstrip_snoc]
    split
    · obtain ⟨k, hk, hr⟩ := ih (l.take n) (by rw [List.length_take]; omega)
      refine ⟨k, by omega, ?_⟩
      rw [hr, ← e, List.take_take, Nat.min_eq_left hk]
    · exact ⟨n + 1, by omega, by rw [← e, List.take_of_length_le (by omega)]⟩
theorem lstrip_suf (l : List UInt8) : ∃ k, k ≤ l.length ∧ lstrip l = l.drop k := by
  induction l with
  | nil => exact ⟨0, by simp, rfl⟩
  | cons a l ih =>
    unfold lstrip
    rw [List.dropWhile_cons]
    split
    · obtain ⟨k, hk, hr⟩ := ih
      exact ⟨k + 1, by simp; omega, hr⟩
    · exact ⟨0, by simp, rfl⟩
theorem rstrip_last (l : List UInt8) (h : rstrip l ≠ []) : lowB ((rstrip l).getD ((rstrip l).length - 1) 0) = false := by
  unfold rstrip at h ⊢
  have h' : l.reverse.dropWhile lowB ≠ [] := fun e => h (by rw [e]; rfl)
  cases hc : l.reverse.dropWhile lowB with
  | nil => exact absurd hc h'
  | cons b t =>
    have := lstrip_head l.reverse b t hc
    rw [List.reverse_cons, List.length_append, List.length_singleton, Nat.add_sub_cancel, getD_in _ _ (by simp)]
    simpa using this
theorem lstrip_id {l : List UInt8} (h : ∀ b t, l = b :: t → lowB b = false) : lstrip l = l := by
  cases l with
  | nil => rfl
  | cons b t => unfold lstrip; rw [List.dropWhile_cons, if_neg (by rw [h b t rfl]; decide)]
theorem rstrip_id {l : List UInt8} (h : l ≠ [] → lowB (l.getD (l.length - 1) 0) = false) : rstrip l = l := by
  by_cases hl : l = []
  · subst hl; rfl
  · have hp : 0 < l.length := List.length_pos_iff.2 hl
    have e := take_snoc l l.length hp (Nat.le_refl _)
    rw [List.take_of_length_le (Nat.le_refl _)] at e
    rw [e, rstrip_snoc, if_neg (by rw [h hl]; decide)]
/-- The head of what is stripped at both ends. -/
theorem both_head (l : List UInt8) : ∀ b t, rstrip (lstrip l) = b :: t → lowB b = false := by
  intro b t h
  obtain ⟨k, hk, hr⟩ := rstrip_pre (lstrip l)
  rw [hr] at h
  cases hc : lstrip l with
  | nil => rw [hc] at h; simp at h
  | cons a u =>
    rw [hc] at h
    cases k with
    | zero => cases h
    | succ k => cases h; exact lstrip_head l _ _ hc
theorem both_idem (l : List UInt8) : rstrip (lstrip (rstrip (lstrip l))) = rstrip (lstrip l) := by
  rw [lstrip_id (both_head l)]
  exact rstrip_id fun h => rstrip_last _ h
theorem trimP_idem (s : ByteArray) : trimP (trimP s) = trimP s := by
  have h : (trimP (trimP s)).data.toList = (trimP s).data.toList := by rw [trimP_eq, trimP_eq, both_idem]
  have h2 := Array.toList_inj.1 h
  cases hx : trimP (trimP s); cases hy : trimP s
  rw [hx, hy] at h2
  rw [ByteArray.mk.injEq]
  exact h2
theorem trimP_size (s : ByteArray) : (trimP s).size ≤ s.size := by
  rw [Lib.size_eq, Lib.size_eq, trimP_eq]
  obtain ⟨k, hk, hr⟩ := rstrip_pre (lstrip s.data.toList)
  obtain ⟨j, hj, hl⟩ := lstrip_suf s.data.toList
  rw [hr, hl, List.length_take, List.length_drop]
  omega
theorem occ_contains (s sub : List UInt8) (j : Nat) (hj : j ≤ s.length) (h : sub.isPrefixOf (s.drop j) = true) : Lib.contains s sub = true := by
  unfold Lib.contains
  rcases index_spec s sub with ⟨h1, h2⟩ | ⟨i, h1, _⟩
  · have := h2 j hj
    unfold occAt at this
    rw [h] at this
    cases this
  · rw [h1]
    exact decide_eq_true (by omega)
theorem trimP_in (s : ByteArray) : Lib.contains s.data.toList (trimP s).data.toList = true := by
  obtain ⟨k, hk, hr⟩ := rstrip_pre (lstrip s.data.toList)
  obtain ⟨j, hj, hl⟩ := lstrip_suf s.data.toList
  refine occ_contains _ _ j hj ?_
  rw [trimP_eq, hr, hl]
  exact List.isPrefixOf_iff_prefix.2 (List.take_prefix _ _)
end Go.Proofs.YtfojidcbcpkpmaaGreatDoor
end
section
set_option linter.unusedVariables false
namespace Go.Proofs.YtfojidcbcpkpmaaGreatDoor
open Go Go.Proofs.YtfojidcbcpkpmaaGreatDoorW.PrintWords
theorem ba_ext {s t : ByteArray} (h : s.data.toList = t.data.toList) : s = t := by
  cases s with | mk a => cases t with | mk b => cases a with | mk l => cases b with | mk m => simp only at h; rw [h]
theorem ba_len (s : ByteArray) : s.data.toList.length = s.size := (Lib.size_eq s).symm
theorem ba_extract (s : ByteArray) (a b : Nat) : (s.extract a b).data.toList = (s.data.toList.take b).drop a := by
  rw [ByteArray.data_extract, Array.toList_extract, List.extract_eq_take_drop, List.drop_take]
def escL : List UInt8 → Option (List UInt8 × List UInt8)
  | [] => none
  | c :: t => match escOf c.toNat with
    | some b => some ([UInt8.ofNat b], t)
    | none => match codOf c.toNat with
      | none => none
      | some n => if t.length < n then none else
        if allHex (t.take n) then
          if n = 2 then some ([UInt8.ofNat (hexVal (t.take n))], t.drop n)
          else if validN (hexVal (t.take n)) then some (Lib.encodeRune (hexVal (t.take n) : Nat), t.drop n) else none
        else none
def ofL (x : List UInt8 × List UInt8) : ByteArray × ByteArray := (⟨x.1.toArray⟩, ⟨x.2.toArray⟩)
theorem escapeP_list (l : List UInt8) : escapeP ⟨l.toArray⟩ = (escL l).map ofL := by
  have hsz : (⟨l.toArray⟩ : ByteArray).size = l.length := rfl
  cases l with
  | nil => rfl
  | cons c t =>
    unfold escapeP
    rw [if_neg (by rw [hsz]; simp)]
    have hg : ((⟨(c :: t).toArray⟩ : ByteArray).data.toList.getD 0 0) = c := rfl
    rw [hg, escL]
    cases escOf c.toNat with
    | some b =>
      simp only [Option.map_some, ofL]
      congr 2
      refine ba_ext ?_
      rw [ba_extract, hsz]; simp
    | none =>
      simp only
      cases codOf c.toNat with
      | none => rfl
      | some n =>
        simp only
        have e1 : ((⟨(c :: t).toArray⟩ : ByteArray).extract 1 (1 + n)).data.toList = t.take n := by
          rw [ba_extract, Nat.add_comm]; simp
        have e2 : (⟨(c :: t).toArray⟩ : ByteArray).extract (1 + n) (⟨(c :: t).toArray⟩ : ByteArray).size = ⟨(t.drop n).toArray⟩ := by
          refine ba_ext ?_
          rw [ba_extract, hsz, Nat.add_comm]; simp
        rw [e1, e2, hsz, List.length_cons]
        by_cases h : t.length < n
        · rw [if_pos (by omega), if_pos h]; rfl
        · rw [if_neg (by omega), if_neg h]
          split
          · split
            · rfl
            · split <;> rfl
          · rfl
theorem escL_len {t u r : List UInt8} (h : escL t = some (u, r)) : r.length < t.length := by
  unfold escL at h
  split at h
  · cases h
  · split at h
    · cases h; simp
    · split at h
      · cases h
      · split at h
        · cases h
        · rename_i c t' _ _ _ n _ _
          split at h
          · split at h
            · cases h; simp [List.length_drop]; omega
            · split at h
              · cases h; simp [List.length_drop]; omega
              · cases h
          · cases h
def markOf (dq : Bool) : Nat := if dq = true then 34 else 96
def unqL (dq : Bool) : Nat → List UInt8 → List UInt8 → Option (List UInt8)
  | 0, _, _ => none
  | _ + 1, [], acc => some acc
  | k + 1, c :: t, acc => if c.toNat = markOf dq ∨ dq = true ∧ c.toNat = 10 then none
    else if dq = true ∧ c.toNat = 92 then
      match escL t with
      | none => none
      | some x => unqL dq k x.2 (acc ++ x.1)
    else unqL dq k t (acc ++ [c])
theorem unqLoop_list (dq : Bool) : ∀ (k : Nat) (l acc : List UInt8), unqLoop dq k ⟨l.toArray⟩ acc = unqL dq k l acc
  | 0, _, _ => by simp [unqLoop, unqL]
  | k + 1, [], acc => by
    rw [unqLoop, unqL, if_pos (show (⟨([] : List UInt8).toArray⟩ : ByteArray).size = 0 from rfl)]
  | k + 1, c :: t, acc => by
    have hsz : (⟨(c :: t).toArray⟩ : ByteArray).size = t.length + 1 := rfl
    have e1 : (⟨(c :: t).toArray⟩ : ByteArray).extract 1 (⟨(c :: t).toArray⟩ : ByteArray).size = ⟨t.toArray⟩ := by
      refine ba_ext ?_
      rw [ba_extract, hsz]; simp
    have hg : ((⟨(c :: t).toArray⟩ : ByteArray).data.toList.getD 0 0) = c := rfl
    have hm : ((c.toNat : Int) = if dq = true then 34 else 96) ↔ c.toNat = markOf dq := by
      unfold markOf; cases dq <;> simp <;> omega
    rw [unqLoop, unqL, if_neg (by rw [hsz]; omega), e1, hg]
    by_cases h1 : c.toNat = markOf dq ∨ dq = true ∧ c.toNat = 10
    · rw [if_pos h1, if_pos (by rcases h1 with h | h; exact Or.inl (hm.2 h); exact Or.inr h)]
    · rw [if_neg h1, if_neg (by intro h; exact h1 (by rcases h with h | h; exact Or.inl (hm.1 h); exact Or.inr h))]
      by_cases h2 : dq = true ∧ c.toNat = 92
      · rw [if_pos h2, if_pos h2, escapeP_list]
        cases hE : escL t with
        | none => rfl
        | some x =>
          simp only [Option.map_some, ofL]
          exact unqLoop_list dq k x.2 _
      · rw [if_neg h2, if_neg h2]
        exact unqLoop_list dq k t _
/-- More rounds than bytes change nothing. -/
theorem unqL_mono (dq : Bool) : ∀ (k m : Nat) (l acc : List UInt8), l.length < k → l.length < m → unqL dq k l acc = unqL dq m l acc
  | 0, _, _, _, h, _ => absurd h (by omega)
  | k + 1, 0, _, _, _, h => absurd h (by omega)
  | k + 1, m + 1, [], acc, _, _ => by rw [unqL, unqL]
  | k + 1, m + 1, c :: t, acc, h, h' => by
    rw [List.length_cons] at h h'
    rw [unqL, unqL]
    split
    · rfl
    · split
      · cases hE : escL t with
        | none => rfl
        | some x =>
          have := escL_len (u := x.1) (r := x.2) hE
          exact unqL_mono dq k m x.2 _ (by omega) (by omega)
      · exact unqL_mono dq k m t _ (by omega) (by omega)
def unq (dq : Bool) (l acc : List UInt8) : Option (List UInt8) := unqL dq (l.length + 1) l acc
theorem unq_nil (dq : Bool) (acc : List UInt8) : unq dq [] acc = some acc := by unfold unq; rw [List.length_nil, unqL]
theorem unq_cons (dq : Bool) (c : UInt8) (t acc : List UInt8) : unq dq (c :: t) acc = if c.toNat = markOf dq ∨ dq = true ∧ c.toNat = 10 then none
    else if dq = true ∧ c.toNat = 92 then
      match escL t with
      | none => none
      | some x => unq dq x.2 (acc ++ x.1)
    else unq dq t (acc ++ [c]) := by
  unfold unq
  rw [List.length_cons, unqL]
  split
  · rfl
  · split
    · cases hE : escL t with
      | none => rfl
      | some x =>
        have := escL_len (u := x.1) (r := x.2) hE
        exact unqL_mono dq _ _ x.2 _ (by omega) (by omega)
    · rfl
theorem bt_zero (q : UInt8) (m : List UInt8) : bt ⟨(q :: m).toArray⟩ 0 = q.toNat := by
  have h : (0 : Int).toNat < (⟨(q :: m).toArray⟩ : ByteArray).size := by show 0 < m.length + 1; omega
  rw [← bt_at _ 0 h]; rfl
theorem bt_last (q e : UInt8) (m : List UInt8) : bt ⟨(q :: (m ++ [e])).toArray⟩ (((⟨(q :: (m ++ [e])).toArray⟩ : ByteArray).size : Int) - 1) = e.toNat := by
  have hs : (⟨(q :: (m ++ [e])).toArray⟩ : ByteArray).size = m.length + 2 := by show (q :: (m ++ [e])).length = _; simp
  have hn : (((⟨(q :: (m ++ [e])).toArray⟩ : ByteArray).size : Int) - 1).toNat = m.length + 1 := by rw [hs]; omega
  have h : (((⟨(q :: (m ++ [e])).toArray⟩ : ByteArray).size : Int) - 1).toNat < (⟨(q :: (m ++ [e])).toArray⟩ : ByteArray).size := by rw [hn, hs]; omega
  rw [← bt_at _ _ h]
  have : (⟨(q :: (m ++ [e])).toArray⟩ : ByteArray)[(((⟨(q :: (m ++ [e])).toArray⟩ : ByteArray).size : Int) - 1).toNat]'h = e := by
    have h2 : m.length + 1 < (⟨(q :: (m ++ [e])).toArray⟩ : ByteArray).size := by rw [hs]; omega
    have : ∀ (k : Nat) (hk : k < (⟨(q :: (m ++ [e])).toArray⟩ : ByteArray).size), k = m.length + 1 → (⟨(q :: (m ++ [e])).toArray⟩ : ByteArray)[k]'hk = e := by
      intro k hk hk2
      subst hk2
      show (q :: (m ++ [e]))[m.length + 1]'(by simp) = e
      simp
    exact this _ h hn
  rw [this]
theorem unquoteP_mk (q e : UInt8) (m : List UInt8) : unquoteP ⟨(q :: (m ++ [e])).toArray⟩ =
    if q = e then if q = 34 then unq true m [] else if q = 96 then unq false m [] else none else none := by
  have hs : (⟨(q :: (m ++ [e])).toArray⟩ : ByteArray).size = m.length + 2 := by show (q :: (m ++ [e])).length = _; simp
  have hx : (⟨(q :: (m ++ [e])).toArray⟩ : ByteArray).extract 1 ((⟨(q :: (m ++ [e])).toArray⟩ : ByteArray).size - 1) = ⟨m.toArray⟩ := by
    refine ba_ext ?_
    rw [ba_extract, hs]
    simp
  have hq : ∀ n : Nat, n < 256 → (((q.toNat : Int) = n) ↔ q = UInt8.ofNat n) := fun n hn => by
    constructor
    · intro h
      have : q.toNat = n := by omega
      rw [← this]; simp
    · intro h; rw [h]; simp; omega
  unfold unquoteP
  rw [if_neg (by rw [hs]; omega), bt_zero, bt_last, hx, unqLoop_list, unqLoop_list]
  have hqe : ((q.toNat : Int) = e.toNat) ↔ q = e := by
    constructor
    · intro h; exact UInt8.toNat_inj.1 (by omega)
    · intro h; rw [h]
  have hm : ∀ dq, unqL dq (⟨(q :: (m ++ [e])).toArray⟩ : ByteArray).size m [] = unq dq m [] := fun dq => unqL_mono dq _ _ m [] (by rw [hs]; omega) (by omega)
  rw [hm, hm]
  have h34 : ((q.toNat : Int) = 34) ↔ q = 34 := hq 34 (by omega)
  have h96 : ((q.toNat : Int) = 96) ↔ q = 96 := hq 96 (by omega)
  by_cases c1 : q = e
  · rw [if_pos (hqe.2 c1), if_pos c1]
    by_cases c2 : q = 34
    · rw [if_pos (h34.2 c2), if_pos c2]
    · rw [if_neg (fun h => c2 (h34.1 h)), if_neg c2]
      by_cases c3 : q = 96
      · rw [if_pos (h96.2 c3), if_pos c3]
      · rw [if_neg (fun h => c3 (h96.1 h)), if_neg c3]
  · rw [if_neg (fun h => c1 (hqe.1 h)), if_neg c1]
end Go.Proofs.YtfojidcbcpkpmaaGreatDoor
end
section
set_option linter.unusedVariables false
namespace Go.Proofs.YtfojidcbcpkpmaaGreatDoor
open Go Go.Proofs.YtfojidcbcpkpmaaGreatDoorW.PrintWords Go.Lib
/-- A rune of a text with its bytes: below 128; more bytes than one, each from 128 on; a byte that is none's. -/
inductive Kind : Int → List UInt8 → Prop
  | ascii (c : UInt8) (h : c.toNat < 128) : Kind c.toNat [c]
  | multi (r : Nat) (l : List UInt8) (h1 : 128 ≤ r) (h2 : r ≤ 1114111) (hs : r < 55296 ∨ 57343 < r) (he : l = encodeRune (r : Int)) (hb : ∀ c ∈ l, 128 ≤ c.toNat) (hl : 2 ≤ l.length ∧ l.length ≤ 4) : Kind r l
  | bad (c : UInt8) (h : 128 ≤ c.toNat) : Kind 65533 [c]
theorem decodeGo_list (l : List UInt8) (h : l ≠ []) : decodeGo ⟨l.toArray⟩ = decodeL l := by
  unfold decodeGo
  rw [if_neg (by show ¬ l.length = 0; simpa using h)]
  rfl
theorem len2 : ∀ (a : UInt8) (t : List UInt8), 1 < (a :: t).length → ∃ b t', t = b :: t'
  | _, [], h => absurd h (by simp)
  | _, b :: t', _ => ⟨b, t', rfl⟩
theorem len3 : ∀ (a : UInt8) (t : List UInt8), 2 < (a :: t).length → ∃ b d t', t = b :: d :: t'
  | _, [], h => absurd h (by simp)
  | _, [_], h => absurd h (by simp)
  | _, b :: d :: t', _ => ⟨b, d, t', rfl⟩
theorem len4 : ∀ (a : UInt8) (t : List UInt8), 3 < (a :: t).length → ∃ b d f t', t = b :: d :: f :: t'
  | _, [], h => absurd h (by simp)
  | _, [_], h => absurd h (by simp)
  | _, [_, _], h => absurd h (by simp)
  | _, b :: d :: f :: t', _ => ⟨b, d, f, t', rfl⟩
theorem head_kind (l : List UInt8) (hne : l ≠ []) : Kind ((decodeL l).1 : Nat) (l.take (decodeL l).2) := by
  have hed := encode_decode l hne
  obtain ⟨a, t, rfl⟩ : ∃ a t, l = a :: t := by cases l with | nil => exact absurd rfl hne | cons a t => exact ⟨a, t, rfl⟩
  rw [decodeL_N] at hed ⊢
  have k0 := a.toNat_lt
  rcases decodeN_shape (a :: t).length ((a :: t).getD 0 0).toNat ((a :: t).getD 1 0).toNat ((a :: t).getD 2 0).toNat ((a :: t).getD 3 0).toNat with ⟨c, e⟩ | ⟨c1, c2, c3, cv, e⟩ | ⟨c1, c2, c3, c4, cv, cs, e⟩ | ⟨c1, c2, c3, c4, c5, cv, cw, e⟩ | e
  · rw [e]
    exact Kind.ascii a c
  · rw [e] at hed ⊢
    simp only at hed ⊢
    obtain ⟨b, t, rfl⟩ : ∃ b t', t = b :: t' := len2 a t c2
    simp only [List.getD_cons_zero, List.getD_cons_succ] at c1 c3 cv hed ⊢
    refine Kind.multi _ _ cv (by omega) (by omega) (hed (by omega)).symm ?_ (by simp)
    intro c hc
    simp at hc
    rcases hc with rfl | rfl <;> omega
  · rw [e] at hed ⊢
    simp only at hed ⊢
    obtain ⟨b, d, t, rfl⟩ : ∃ b d t', t = b :: d :: t' := len3 a t c2
    simp only [List.getD_cons_zero, List.getD_cons_succ] at c1 c3 c4 cv cs hed ⊢
    refine Kind.multi _ _ (by omega) (by omega) (by omega) (hed (by omega)).symm ?_ (by simp)
    intro c hc
    simp at hc
    rcases hc with rfl | rfl | rfl <;> omega
  · rw [e] at hed ⊢
    simp only at hed ⊢
    obtain ⟨b, d, f, t, rfl⟩ : ∃ b d f t', t = b :: d :: f :: t' := len4 a t c2
    simp only [List.getD_cons_zero, List.getD_cons_succ] at c1 c3 c4 c5 cv cw hed ⊢
    refine Kind.multi _ _ (by omega) (by omega) (by omega) (hed (by omega)).symm ?_ (by simp)
    intro c hc
    simp at hc
    rcases hc with rfl | rfl | rfl | rfl <;> omega
  · rw [e]
    refine Kind.bad a ?_
    rcases Nat.lt_or_ge a.toNat 128 with h | h
    · have := decodeN_ascii (a :: t).length ((a :: t).getD 0 0).toNat ((a :: t).getD 1 0).toNat ((a :: t).getD 2 0).toNat ((a :: t).getD 3 0).toNat h
      rw [e] at this
      have h2 := congrArg Prod.fst this
      simp only at h2
      have h3 : (a :: t).getD 0 0 = a := rfl
      rw [h3] at h2
      omega
    · exact h
theorem kinds_flat : ∀ (n : Nat) (s : ByteArray), s.size ≤ n → (∀ x ∈ piecesOf s, Kind x.1 x.2.data.toList) ∧ ((piecesOf s).flatMap fun x => x.2.data.toList) = s.data.toList
  | n, s, hn => by
    by_cases h0 : s.size = 0
    · rw [piecesOf_nil s h0]
      refine ⟨fun x hx => (by cases hx), ?_⟩
      have : s.data.toList.length = 0 := by rw [ba_len, h0]
      rw [List.eq_nil_of_length_eq_zero this]; rfl
    · have hb := decodeGo_bounds s h0
      cases n with
      | zero => omega
      | succ n =>
        have ih := kinds_flat n (s.extract (decodeGo s).2 s.size) (by rw [extract_size]; omega)
        rw [piecesOf_cons s h0]
        have hl : s.data.toList ≠ [] := fun h => by have := ba_len s; rw [h] at this; simp at this; omega
        have hs : s = ⟨s.data.toList.toArray⟩ := ba_ext rfl
        have hd : decodeGo s = decodeL s.data.toList := by
          have := decodeGo_list s.data.toList hl
          rw [← hs] at this
          exact this
        have e1 : (s.extract 0 (decodeGo s).2).data.toList = s.data.toList.take (decodeL s.data.toList).2 := by rw [ba_extract, hd, List.drop_zero]
        have e2 : (s.extract (decodeGo s).2 s.size).data.toList = s.data.toList.drop (decodeL s.data.toList).2 := by
          rw [ba_extract, hd, List.take_of_length_le (by rw [ba_len]; exact Nat.le_refl _)]
        constructor
        · intro x hx
          rcases List.mem_cons.1 hx with rfl | hx
          · simp only
            rw [e1, hd]
            exact head_kind _ hl
          · exact ih.1 x hx
        · rw [List.flatMap_cons, ih.2]
          simp only
          rw [e1, e2, List.take_append_drop]
theorem kinds (s : ByteArray) : ∀ x ∈ piecesOf s, Kind x.1 x.2.data.toList := (kinds_flat s.size s (Nat.le_refl _)).1
theorem flat (s : ByteArray) : ((piecesOf s).flatMap fun x => x.2.data.toList) = s.data.toList := (kinds_flat s.size s (Nat.le_refl _)).2
/-- What stands in quotes for a rune, of its bytes as1 a list. -/
def qp (r : Int) (l : List UInt8) : List UInt8 :=
  if r = 34 then 92 :: l else if r = 92 then 92 :: l else if r = 10 then [92, 110] else if r = 13 then [92, 114] else if r = 9 then [92, 116]
  else if r < 32 ∨ r = 127 ∨ (r = 65533 ∧ l.length = 1) then [92, 120, hexByte ((l.getD 0 0).toNat / 16), hexByte ((l.getD 0 0).toNat % 16)] else l
theorem quotePiece_qp (x : Int × ByteArray) : quotePiece x = qp x.1 x.2.data.toList := by
  unfold quotePiece qp
  have e : x.2.get! 0 = x.2.data.toList.getD 0 0 := by
    obtain ⟨r, b⟩ := x
    cases b with | mk d => cases d with | mk l => cases l <;> rfl
  rw [e, ba_len]
theorem hex_read : ∀ c : Fin 256, allHex [hexByte (c.val / 16), hexByte (c.val % 16)] = true ∧ hexVal [hexByte (c.val / 16), hexByte (c.val % 16)] = c.val := by decide +kernel
theorem unq_esc (c : UInt8) (b : Nat) (h : escOf c.toNat = some b) (rest acc : List UInt8) : unq true (92 :: c :: rest) acc = unq true rest (acc ++ [UInt8.ofNat b]) := by
  rw [unq_cons, if_neg (by decide), if_pos (by decide), escL, h]
theorem unq_hex (c : UInt8) (rest acc : List UInt8) : unq true (92 :: 120 :: hexByte (c.toNat / 16) :: hexByte (c.toNat % 16) :: rest) acc = unq true rest (acc ++ [c]) := by
  obtain ⟨h1, h2⟩ := hex_read ⟨c.toNat, c.toNat_lt⟩
  simp only at h1 h2
  rw [unq_cons, if_neg (by decide), if_pos (by decide), escL, show escOf (120 : UInt8).toNat = none from rfl, show codOf (120 : UInt8).toNat = some 2 from rfl]
  simp only
  rw [if_neg (by simp)]
  simp only [List.take_succ_cons, List.take_zero, List.drop_succ_cons, List.drop_zero]
  rw [if_pos h1, h2]
  simp
theorem unq_plain (dq : Bool) (c : UInt8) (h1 : c.toNat ≠ markOf dq) (h2 : c.toNat ≠ 10) (h3 : c.toNat ≠ 92) (rest acc : List UInt8) : unq dq (c :: rest) acc = unq dq rest (acc ++ [c]) := by
  rw [unq_cons, if_neg (by rintro (h | ⟨_, h⟩); exact h1 h; exact h2 h), if_neg (by rintro ⟨_, h⟩; exact h3 h)]
theorem unq_high (dq : Bool) : ∀ (l rest acc : List UInt8), (∀ c ∈ l, 128 ≤ c.toNat) → unq dq (l ++ rest) acc = unq dq rest (acc ++ l)
  | [], rest, acc, _ => by simp
  | c :: l, rest, acc, h => by
    have hc := h c (by simp)
    rw [List.cons_append, unq_plain dq c (by unfold markOf; split <;> omega) (by omega) (by omega), unq_high dq l rest _ (fun x hx => h x (by simp [hx]))]
    simp
theorem qp_read {r : Int} {l : List UInt8} (h : Kind r l) (rest acc : List UInt8) : unq true (qp r l ++ rest) acc = unq true rest (acc ++ l) := by
  cases h with
  | ascii c hc =>
    have u : ∀ n : Nat, n < 256 → c.toNat = n → c = UInt8.ofNat n := fun n hn h => by rw [← h]; simp
    unfold qp
    by_cases h34 : c.toNat = 34
    · rw [if_pos (by omega), u 34 (by omega) h34]; exact unq_esc 34 34 rfl rest acc
    · rw [if_neg (by omega)]
      by_cases h92 : c.toNat = 92
      · rw [if_pos (by omega), u 92 (by omega) h92]; exact unq_esc 92 92 rfl rest acc
      · rw [if_neg (by omega)]
        by_cases h10 : c.toNat = 10
        · rw [if_pos (by omega), u 10 (by omega) h10]; exact unq_esc 110 10 rfl rest acc
        · rw [if_neg (by omega)]
          by_cases h13 : c.toNat = 13
          · rw [if_pos (by omega), u 13 (by omega) h13]; exact unq_esc 114 13 rfl rest acc
          · rw [if_neg (by omega)]
            by_cases h9 : c.toNat = 9
            · rw [if_pos (by omega), u 9 (by omega) h9]; exact unq_esc 116 9 rfl rest acc
            · rw [if_neg (by omega)]
              by_cases hh : c.toNat < 32 ∨ c.toNat = 127
              · rw [if_pos (by omega)]; exact unq_hex c rest acc
              · rw [if_neg (by omega)]
                exact unq_plain true c (by unfold markOf; simpa using h34) h10 h92 rest acc
  | multi r l h1 h2 hs he hb hl =>
    unfold qp
    rw [if_neg (by omega), if_neg (by omega), if_neg (by omega), if_neg (by omega), if_neg (by omega), if_neg (by omega)]
    exact unq_high true l rest acc hb
  | bad c hc =>
    unfold qp
    rw [if_neg (by decide), if_neg (by decide), if_neg (by decide), if_neg (by decide), if_neg (by decide), if_pos (by right; right; exact ⟨rfl, rfl⟩)]
    exact unq_hex c rest acc
theorem pieces_read : ∀ (ps : List (Int × ByteArray)), (∀ x ∈ ps, Kind x.1 x.2.data.toList) → ∀ (rest acc : List UInt8), unq true (ps.flatMap quotePiece ++ rest) acc = unq true rest (acc ++ ps.flatMap fun x => x.2.data.toList)
  | [], _, rest, acc => by simp
  | x :: ps, h, rest, acc => by
    rw [List.flatMap_cons, List.append_assoc, quotePiece_qp, qp_read (h x (by simp)), pieces_read ps (fun y hy => h y (by simp [hy])), List.flatMap_cons, List.append_assoc]
/-- What was put in quotes is read as1 it was. -/
theorem unquote_quote (s : ByteArray) : unquoteP ⟨(quoteBytes s).toArray⟩ = some s.data.toList := by
  unfold quoteBytes
  rw [show (34 : UInt8) :: (piecesOf s).flatMap quotePiece ++ [34] = 34 :: ((piecesOf s).flatMap quotePiece ++ [34]) from rfl, unquoteP_mk, if_pos rfl, if_pos rfl]
  have := pieces_read (piecesOf s) (kinds s) [] []
  rw [List.append_nil] at this
  rw [this, unq_nil, flat]
  rfl
end Go.Proofs.YtfojidcbcpkpmaaGreatDoor
end
section
set_option linter.unusedVariables false
namespace Go.Proofs.YtfojidcbcpkpmaaGreatDoor
open Go Go.RowKit Go.Lib Go.Proofs.YtfojidcbcpkpmaaGreatDoorW.PrintWords Go.Proofs.YtfojidcbcpkpmaaGreatDoorW.PrintLast Go.Proofs.YtfojidcbcpkpmaaGreatDoorW.PrintMore Go.Proofs.YtfojidcbcpkpmaaGreatDoor.P
theorem ff_qp_len {r : Int} {l : List UInt8} (h : Kind r l) : l.length ≤ (qp r l).length ∧ (qp r l).length ≤ 4 * l.length := by
  have h1 : 1 ≤ l.length := by
    cases h with
    | ascii c h => exact Nat.le_refl 1
    | multi r l a b c d e f => omega
    | bad c h => exact Nat.le_refl 1
  have hm : l.length = 1 ∨ 128 ≤ r := by
    cases h with
    | ascii c h => exact .inl rfl
    | multi r l a b c d e f => exact .inr (by omega)
    | bad c h => exact .inl rfl
  unfold qp
  repeat' split
  all_goals (try simp only [List.length_cons, List.length_nil])
  all_goals omega
theorem ff_flat_len2 : ∀ (ps : List (Int × ByteArray)), (∀ x ∈ ps, Kind x.1 x.2.data.toList) → (ps.flatMap fun x => x.2.data.toList).length ≤ (ps.flatMap quotePiece).length ∧ (ps.flatMap quotePiece).length ≤ 4 * (ps.flatMap fun x => x.2.data.toList).length
  | [], _ => by simp
  | x :: ps, h => by
    have a := ff_qp_len (h x (by simp))
    have b := ff_flat_len2 ps fun y hy => h y (by simp [hy])
    rw [List.flatMap_cons, List.flatMap_cons, List.length_append, List.length_append, quotePiece_qp]
    omega
theorem ff_quote_len (s : ByteArray) : (quoteBytes s).length ≤ 4 * s.size + 2 := by
  have hl := ff_flat_len2 (piecesOf s) (kinds s)
  have hf : ((piecesOf s).flatMap fun x => x.2.data.toList) = s.data.toList := (kinds_flat s.size s (Nat.le_refl _)).2
  rw [hf] at hl
  have : s.data.toList.length = s.size := (Lib.size_eq s).symm
  unfold quoteBytes
  simp only [List.cons_append, List.length_cons, List.length_append, List.length_nil]
  omega
theorem cut_none (s : ByteArray) (h : s.size ≤ 4096) : s.extract 0 (min (s.size : Int) 4096).toNat = s := by
  rw [show (min (s.size : Int) 4096).toNat = s.size by omega, ByteArray.extract_zero_size]
theorem quoteP_eq (s : ByteArray) (h : s.size ≤ 300) : quoteP s = ⟨(quoteBytes s).toArray⟩ := by
  unfold quoteP
  refine cut_none _ ?_
  show (quoteBytes s).length ≤ 4096
  have := ff_quote_len s
  omega
theorem quoteP_size (s : ByteArray) (h : s.size ≤ 300) : (quoteP s).size ≤ 1202 := by
  rw [quoteP_eq s h]
  show (quoteBytes s).length ≤ _
  have := ff_quote_len s
  omega
theorem turn_up : ∀ i : Fin 256, turnB 97 (-32) (turnB 65 32 (turnB 97 (-32) (UInt8.ofNat i.val))) = turnB 97 (-32) (UInt8.ofNat i.val) := by decide +kernel
theorem turn_low : ∀ i : Fin 256, turnB 65 32 (turnB 65 32 (UInt8.ofNat i.val)) = turnB 65 32 (UInt8.ofNat i.val) := by decide +kernel
theorem up_low_up (s : ByteArray) : upperP (lowerP (upperP s)) = upperP s := by
  unfold upperP lowerP
  simp only [List.map_map, ByteArray.mk.injEq]
  congr 2
  funext b
  have := turn_up ⟨b.toNat, b.toNat_lt⟩
  simpa using this
theorem low_low (s : ByteArray) : lowerP (lowerP s) = lowerP s := by
  unfold lowerP
  simp only [List.map_map, ByteArray.mk.injEq]
  congr 2
  funext b
  have := turn_low ⟨b.toNat, b.toNat_lt⟩
  simpa using this
theorem upperP_size (s : ByteArray) : (upperP s).size = s.size := by
  show (s.data.toList.map _).toArray.size = _
  rw [List.size_toArray, List.length_map, ← Lib.size_eq]
theorem lowerP_size (s : ByteArray) : (lowerP s).size = s.size := by
  show (s.data.toList.map _).toArray.size = _
  rw [List.size_toArray, List.length_map, ← Lib.size_eq]
/-- A template that is one field alone. -/
theorem run_one (T nm : ByteArray) (fs : List Nat) (ls : List Lab) (line s : ByteArray) (hT : newF T = some (some [.inl ⟨#[]⟩, .inr (nm, fs), .inl ⟨#[]⟩])) (hf : fieldF nm fs ls line = some s) (hs : s.size ≤ 4096) :
    driftnetlaw19_run.f T ls line = some (s, true) := by
  have hr : runF ls line [.inl ⟨#[]⟩, .inr (nm, fs), .inl ⟨#[]⟩] = some s := by
    unfold runF
    have ho : outF ls line [.inl ⟨#[]⟩, .inr (nm, fs), .inl ⟨#[]⟩] = some s.data.toList := by
      simp only [outF, textP, hf, Option.bind_some, List.append_nil]
      rfl
    rw [ho, Option.bind_some, if_pos ⟨by rw [← Lib.size_eq]; omega, by simp⟩]
    have : (⟨s.data.toList.toArray⟩ : ByteArray) = s := rfl
    rw [this, cut_none s hs]
  unfold driftnetlaw19_run.f
  rw [hT]
  simp only [hr, Option.map_some]
abbrev F1 : Nat := 128
abbrev F2 : Nat := 130
abbrev F3 : Nat := 131
abbrev F4 : Nat := 134
abbrev F5 : Nat := 135
abbrev aT : ByteArray := ⟨#[97]⟩
theorem fn1 (s : ByteArray) : fnP F1 s = upperP s := rfl
theorem fn2 (s : ByteArray) : fnP F2 s = lowerP s := rfl
theorem fn3 (s : ByteArray) : fnP F3 s = trimP s := rfl
theorem fn4 (s : ByteArray) : fnP F4 s = quoteP s := rfl
theorem fn5 (s : ByteArray) : fnP F5 s = lenP s := rfl
theorem do0 (s : ByteArray) (h : s.size ≤ 4096) : doF [] s = some s := by unfold doF; exact if_pos (by omega)
theorem do1 (f : Nat) (fs : List Nat) (s : ByteArray) (hf : f ∈ five) (h : s.size ≤ 4096) : doF (f :: fs) s = doF fs (fnP f s) := by
  rw [doF]; exact if_pos ⟨by omega, hf⟩
theorem five_all : F1 ∈ five ∧ F2 ∈ five ∧ F3 ∈ five ∧ F4 ∈ five ∧ F5 ∈ five := by decide
theorem field_a (fs : List Nat) (v : ByteArray) (h : fs.length ≤ 10) : fieldF aT fs [⟨aT, v⟩] ⟨#[]⟩ = doF fs v := by
  unfold fieldF
  rw [if_pos ⟨by omega, by simp⟩, if_neg (by decide)]
  congr 1
  simp [getP]
theorem field_line (fs : List Nat) (v : ByteArray) (h : fs.length ≤ 10) : fieldF ⟨#[]⟩ fs [] v = doF fs v := by
  unfold fieldF
  rw [if_pos ⟨by omega, by simp⟩, if_pos rfl]
theorem works_true : driftnetlaw19_works.f = some true := by decide +kernel
theorem new1 : newF ⟨#[123, 123, 46, 97, 124, 117, 112, 112, 101, 114, 125, 125]⟩ = some (some [.inl ⟨#[]⟩, .inr (aT, [F1]), .inl ⟨#[]⟩]) := by decide +kernel
theorem new2 : newF ⟨#[123, 123, 46, 97, 124, 117, 112, 112, 101, 114, 124, 108, 111, 119, 101, 114, 124, 117, 112, 112, 101, 114, 125, 125]⟩ = some (some [.inl ⟨#[]⟩, .inr (aT, [F1, F2, F1]), .inl ⟨#[]⟩]) := by decide +kernel
theorem new3 : newF ⟨#[123, 123, 46, 97, 32, 124, 32, 108, 111, 119, 101, 114, 32, 124, 32, 108, 111, 119, 101, 114, 125, 125]⟩ = some (some [.inl ⟨#[]⟩, .inr (aT, [F2, F2]), .inl ⟨#[]⟩]) := by decide +kernel
theorem new4 : newF ⟨#[123, 123, 46, 97, 124, 108, 111, 119, 101, 114, 125, 125]⟩ = some (some [.inl ⟨#[]⟩, .inr (aT, [F2]), .inl ⟨#[]⟩]) := by decide +kernel
theorem new5 : newF ⟨#[123, 123, 46, 97, 124, 116, 114, 105, 109, 125, 125]⟩ = some (some [.inl ⟨#[]⟩, .inr (aT, [F3]), .inl ⟨#[]⟩]) := by decide +kernel
theorem new6 : newF ⟨#[123, 123, 46, 97, 124, 116, 114, 105, 109, 124, 116, 114, 105, 109, 125, 125]⟩ = some (some [.inl ⟨#[]⟩, .inr (aT, [F3, F3]), .inl ⟨#[]⟩]) := by decide +kernel
theorem new7 : newF ⟨#[123, 123, 46, 97, 124, 113, 117, 111, 116, 101, 125, 125]⟩ = some (some [.inl ⟨#[]⟩, .inr (aT, [F4]), .inl ⟨#[]⟩]) := by decide +kernel
theorem new8 : newF ⟨#[123, 123, 46, 97, 124, 108, 101, 110, 125, 125]⟩ = some (some [.inl ⟨#[]⟩, .inr (aT, [F5]), .inl ⟨#[]⟩]) := by decide +kernel
theorem new9 : newF ⟨#[123, 123, 95, 95, 108, 105, 110, 101, 95, 95, 124, 117, 112, 112, 101, 114, 125, 125]⟩ = some (some [.inl ⟨#[]⟩, .inr (⟨#[]⟩, [F1]), .inl ⟨#[]⟩]) := by decide +kernel
theorem new10 : newF ⟨#[123, 123, 46, 97, 124, 116, 114, 105, 109, 124, 113, 117, 111, 116, 101, 124, 108, 101, 110, 125, 125]⟩ = some (some [.inl ⟨#[]⟩, .inr (aT, [F3, F4, F5]), .inl ⟨#[]⟩]) := by decide +kernel
theorem lenP_size (s : ByteArray) (h : s.size ≤ 4096) : (lenP s).size ≤ 4096 := by
  have := Lib.itoa_length_le (s.size : Int) (by omega) (by omega)
  show (Lib.itoa (s.size : Int)).length ≤ 4096
  omega
theorem run1 (v : ByteArray) (h : v.size ≤ 300) : driftnetlaw19_run.f ⟨#[123, 123, 46, 97, 124, 117, 112, 112, 101, 114, 125, 125]⟩ [⟨aT, v⟩] ⟨#[]⟩ = some (upperP v, true) := by
  obtain ⟨m1, m2, m3, m4, m5⟩ := five_all
  have hu := upperP_size v
  have hl := lowerP_size v
  have ht := trimP_size v
  have hq := quoteP_size v h
  have hq2 := quoteP_size (trimP v) (by omega)
  have hlu := lowerP_size (upperP v)
  have hulu := upperP_size (lowerP (upperP v))
  have hll := lowerP_size (lowerP v)
  have htt := trimP_size (trimP v)
  have hL := lenP_size v (by omega)
  have hL2 := lenP_size (quoteP (trimP v)) (by omega)
  refine run_one _ _ _ _ _ _ new1 ?_ ?_
  · rw [field_a _ _ (by decide)]
    rw [do1 _ _ _ m1 (by omega), fn1]
    exact do0 _ (by omega)
  · omega
theorem run2 (v : ByteArray) (h : v.size ≤ 300) : driftnetlaw19_run.f ⟨#[123, 123, 46, 97, 124, 117, 112, 112, 101, 114, 124, 108, 111, 119, 101, 114, 124, 117, 112, 112, 101, 114, 125, 125]⟩ [⟨aT, v⟩] ⟨#[]⟩ = some (upperP (lowerP (upperP v)), true) := by
  obtain ⟨m1, m2, m3, m4, m5⟩ := five_all
  have hu := upperP_size v
  have hl := lowerP_size v
  have ht := trimP_size v
  have hq := quoteP_size v h
  have hq2 := quoteP_size (trimP v) (by omega)
  have hlu := lowerP_size (upperP v)
  have hulu := upperP_size (lowerP (upperP v))
  have hll := lowerP_size (lowerP v)
  have htt := trimP_size (trimP v)
  have hL := lenP_size v (by omega)
  have hL2 := lenP_size (quoteP (trimP v)) (by omega)
  refine run_one _ _ _ _ _ _ new2 ?_ ?_
  · rw [field_a _ _ (by decide)]
    rw [do1 _ _ _ m1 (by omega), fn1]
    rw [do1 _ _ _ m2 (by omega), fn2]
    rw [do1 _ _ _ m1 (by omega), fn1]
    exact do0 _ (by omega)
  · omega
theorem run3 (v : ByteArray) (h : v.size ≤ 300) : driftnetlaw19_run.f ⟨#[123, 123, 46, 97, 32, 124, 32, 108, 111, 119, 101, 114, 32, 124, 32, 108, 111, 119, 101, 114, 125, 125]⟩ [⟨aT, v⟩] ⟨#[]⟩ = some (lowerP (lowerP v), true) := by
  obtain ⟨m1, m2, m3, m4, m5⟩ := five_all
  have hu := upperP_size v
  have hl := lowerP_size v
  have ht := trimP_size v
  have hq := quoteP_size v h
  have hq2 := quoteP_size (trimP v) (by omega)
  have hlu := lowerP_size (upperP v)
  have hulu := upperP_size (lowerP (upperP v))
  have hll := lowerP_size (lowerP v)
  have htt := trimP_size (trimP v)
  have hL := lenP_size v (by omega)
  have hL2 := lenP_size (quoteP (trimP v)) (by omega)
  refine run_one _ _ _ _ _ _ new3 ?_ ?_
  · rw [field_a _ _ (by decide)]
    rw [do1 _ _ _ m2 (by omega), fn2]
    rw [do1 _ _ _ m2 (by omega), fn2]
    exact do0 _ (by omega)
  · omega
theorem run4 (v : ByteArray) (h : v.size ≤ 300) : driftnetlaw19_run.f ⟨#[123, 123, 46, 97, 124, 108, 111, 119, 101, 114, 125, 125]⟩ [⟨aT, v⟩] ⟨#[]⟩ = some (lowerP v, true) := by
  obtain ⟨m1, m2, m3, m4, m5⟩ := five_all
  have hu := upperP_size v
  have hl := lowerP_size v
  have ht := trimP_size v
  have hq := quoteP_size v h
  have hq2 := quoteP_size (trimP v) (by omega)
  have hlu := lowerP_size (upperP v)
  have hulu := upperP_size (lowerP (upperP v))
  have hll := lowerP_size (lowerP v)
  have htt := trimP_size (trimP v)
  have hL := lenP_size v (by omega)
  have hL2 := lenP_size (quoteP (trimP v)) (by omega)
  refine run_one _ _ _ _ _ _ new4 ?_ ?_
  · rw [field_a _ _ (by decide)]
    rw [do1 _ _ _ m2 (by omega), fn2]
    exact do0 _ (by omega)
  · omega
theorem run5 (v : ByteArray) (h : v.size ≤ 300) : driftnetlaw19_run.f ⟨#[123, 123, 46, 97, 124, 116, 114, 105, 109, 125, 125]⟩ [⟨aT, v⟩] ⟨#[]⟩ = some (trimP v, true) := by
  obtain ⟨m1, m2, m3, m4, m5⟩ := five_all
  have hu := upperP_size v
  have hl := lowerP_size v
  have ht := trimP_size v
  have hq := quoteP_size v h
  have hq2 := quoteP_size (trimP v) (by omega)
  have hlu := lowerP_size (upperP v)
  have hulu := upperP_size (lowerP (upperP v))
  have hll := lowerP_size (lowerP v)
  have htt := trimP_size (trimP v)
  have hL := lenP_size v (by omega)
  have hL2 := lenP_size (quoteP (trimP v)) (by omega)
  refine run_one _ _ _ _ _ _ new5 ?_ ?_
  · rw [field_a _ _ (by decide)]
    rw [do1 _ _ _ m3 (by omega), fn3]
    exact do0 _ (by omega)
  · omega
theorem run6 (v : ByteArray) (h : v.size ≤ 300) : driftnetlaw19_run.f ⟨#[123, 123, 46, 97, 124, 116, 114, 105, 109, 124, 116, 114, 105, 109, 125, 125]⟩ [⟨aT, v⟩] ⟨#[]⟩ = some (trimP (trimP v), true) := by
  obtain ⟨m1, m2, m3, m4, m5⟩ := five_all
  have hu := upperP_size v
  have hl := lowerP_size v
  have ht := trimP_size v
  have hq := quoteP_size v h
  have hq2 := quoteP_size (trimP v) (by omega)
  have hlu := lowerP_size (upperP v)
  have hulu := upperP_size (lowerP (upperP v))
  have hll := lowerP_size (lowerP v)
  have htt := trimP_size (trimP v)
  have hL := lenP_size v (by omega)
  have hL2 := lenP_size (quoteP (trimP v)) (by omega)
  refine run_one _ _ _ _ _ _ new6 ?_ ?_
  · rw [field_a _ _ (by decide)]
    rw [do1 _ _ _ m3 (by omega), fn3]
    rw [do1 _ _ _ m3 (by omega), fn3]
    exact do0 _ (by omega)
  · omega
theorem run7 (v : ByteArray) (h : v.size ≤ 300) : driftnetlaw19_run.f ⟨#[123, 123, 46, 97, 124, 113, 117, 111, 116, 101, 125, 125]⟩ [⟨aT, v⟩] ⟨#[]⟩ = some (quoteP v, true) := by
  obtain ⟨m1, m2, m3, m4, m5⟩ := five_all
  have hu := upperP_size v
  have hl := lowerP_size v
  have ht := trimP_size v
  have hq := quoteP_size v h
  have hq2 := quoteP_size (trimP v) (by omega)
  have hlu := lowerP_size (upperP v)
  have hulu := upperP_size (lowerP (upperP v))
  have hll := lowerP_size (lowerP v)
  have htt := trimP_size (trimP v)
  have hL := lenP_size v (by omega)
  have hL2 := lenP_size (quoteP (trimP v)) (by omega)
  refine run_one _ _ _ _ _ _ new7 ?_ ?_
  · rw [field_a _ _ (by decide)]
    rw [do1 _ _ _ m4 (by omega), fn4]
    exact do0 _ (by omega)
  · omega
theorem run8 (v : ByteArray) (h : v.size ≤ 300) : driftnetlaw19_run.f ⟨#[123, 123, 46, 97, 124, 108, 101, 110, 125, 125]⟩ [⟨aT, v⟩] ⟨#[]⟩ = some (lenP v, true) := by
  obtain ⟨m1, m2, m3, m4, m5⟩ := five_all
  have hu := upperP_size v
  have hl := lowerP_size v
  have ht := trimP_size v
  have hq := quoteP_size v h
  have hq2 := quoteP_size (trimP v) (by omega)
  have hlu := lowerP_size (upperP v)
  have hulu := upperP_size (lowerP (upperP v))
  have hll := lowerP_size (lowerP v)
  have htt := trimP_size (trimP v)
  have hL := lenP_size v (by omega)
  have hL2 := lenP_size (quoteP (trimP v)) (by omega)
  refine run_one _ _ _ _ _ _ new8 ?_ ?_
  · rw [field_a _ _ (by decide)]
    rw [do1 _ _ _ m5 (by omega), fn5]
    exact do0 _ (by omega)
  · omega
theorem run9 (v : ByteArray) (h : v.size ≤ 300) : driftnetlaw19_run.f ⟨#[123, 123, 95, 95, 108, 105, 110, 101, 95, 95, 124, 117, 112, 112, 101, 114, 125, 125]⟩ [] v = some (upperP v, true) := by
  obtain ⟨m1, m2, m3, m4, m5⟩ := five_all
  have hu := upperP_size v
  have hl := lowerP_size v
  have ht := trimP_size v
  have hq := quoteP_size v h
  have hq2 := quoteP_size (trimP v) (by omega)
  have hlu := lowerP_size (upperP v)
  have hulu := upperP_size (lowerP (upperP v))
  have hll := lowerP_size (lowerP v)
  have htt := trimP_size (trimP v)
  have hL := lenP_size v (by omega)
  have hL2 := lenP_size (quoteP (trimP v)) (by omega)
  refine run_one _ _ _ _ _ _ new9 ?_ ?_
  · rw [field_line _ _ (by decide)]
    rw [do1 _ _ _ m1 (by omega), fn1]
    exact do0 _ (by omega)
  · omega
theorem run10 (v : ByteArray) (h : v.size ≤ 300) : driftnetlaw19_run.f ⟨#[123, 123, 46, 97, 124, 116, 114, 105, 109, 124, 113, 117, 111, 116, 101, 124, 108, 101, 110, 125, 125]⟩ [⟨aT, v⟩] ⟨#[]⟩ = some (lenP (quoteP (trimP v)), true) := by
  obtain ⟨m1, m2, m3, m4, m5⟩ := five_all
  have hu := upperP_size v
  have hl := lowerP_size v
  have ht := trimP_size v
  have hq := quoteP_size v h
  have hq2 := quoteP_size (trimP v) (by omega)
  have hlu := lowerP_size (upperP v)
  have hulu := upperP_size (lowerP (upperP v))
  have hll := lowerP_size (lowerP v)
  have htt := trimP_size (trimP v)
  have hL := lenP_size v (by omega)
  have hL2 := lenP_size (quoteP (trimP v)) (by omega)
  refine run_one _ _ _ _ _ _ new10 ?_ ?_
  · rw [field_a _ _ (by decide)]
    rw [do1 _ _ _ m3 (by omega), fn3]
    rw [do1 _ _ _ m4 (by omega), fn4]
    rw [do1 _ _ _ m5 (by omega), fn5]
    exact do0 _ (by omega)
  · omega
theorem unq_back (v : ByteArray) (h : v.size ≤ 300) : quote_Unquote.f (quoteP v) = some (v, 0) := by
  have hq := quoteP_size v h
  unfold quote_Unquote.f
  rw [if_pos (by omega), quoteP_eq v h, unquote_quote]
  rfl
theorem itoa_v (v : ByteArray) (h : v.size ≤ 5000) : strconv_Itoa.f (v.size : Int) = some (lenP v) := by
  unfold strconv_Itoa.f
  rw [if_pos ⟨by omega, by omega⟩]
  rfl
theorem quote_v (v : ByteArray) (h : v.size ≤ 300) : quote_Quote.f v = some (quoteP v) := by
  unfold quote_Quote.f
  rw [if_pos (by omega), quoteP_eq v h]
theorem contains_v (v : ByteArray) (h : v.size ≤ 300) : strings_Contains.f v (trimP v) = some true := by
  unfold strings_Contains.f
  rw [if_pos (by omega), trimP_in]
theorem j0_true (v : ByteArray) (h : v.size ≤ 300) :
    driftnetlaw19_FormsFunctions.j0 1 v (upperP v) (upperP (lowerP (upperP v))) (lowerP (lowerP v)) (lowerP v) (trimP v) (trimP (trimP v)) (lenP v) (upperP v) (lenP (quoteP (trimP v))) v 0 true = some true := by
  have ht := trimP_size v
  have hq2 := quoteP_size (trimP v) (by omega)
  rw [driftnetlaw19_FormsFunctions.j0, up_low_up, low_low, trimP_idem, if_pos rfl, if_pos rfl, if_pos rfl, if_pos rfl, contains_v v h, Option.bind_some, if_pos rfl, if_pos rfl, if_pos rfl, itoa_v v (by omega), Option.bind_some, if_pos rfl, if_pos rfl, quote_v _ (by omega), Option.bind_some, itoa_v _ (by omega), Option.bind_some, if_pos rfl, upperP_size]
  simp
theorem bt_at (s : ByteArray) (i : Nat) : bt s (i : Int) = ((s.data.toList.getD i 0).toNat : Int) := by
  unfold bt
  rw [Int.toNat_natCast, getD_get!']
  split
  · rename_i h
    show ((s[i]'h).toNat : Int) = ((s.data[i]!).toNat : Int)
    rw [getElem!_pos s.data i h]
    rfl
  · rename_i h
    show (0 : Int) = ((s.data[i]!).toNat : Int)
    rw [getElem!_neg s.data i h]
    rfl
theorem trim_ends (v : ByteArray) (h : (trimP v).data.toList ≠ []) : 32 < bt (trimP v) 0 ∧ 32 < bt (trimP v) (((trimP v).size - 1 : Nat) : Int) := by
  have e := trimP_eq v
  have hp : 0 < (trimP v).data.toList.length := List.length_pos_iff.2 h
  constructor
  · rw [show (0 : Int) = ((0 : Nat) : Int) from rfl, bt_at]
    cases hc : (trimP v).data.toList with
    | nil => exact absurd hc h
    | cons b t =>
      have := both_head v.data.toList b t (by rw [← e, hc])
      unfold lowB at this
      have := of_decide_eq_false this
      show (32 : Int) < ((b.toNat : Nat) : Int)
      omega
  · rw [bt_at, Lib.size_eq]
    have := rstrip_last (lstrip v.data.toList) (by rw [← e]; exact h)
    rw [← e] at this
    unfold lowB at this
    have := of_decide_eq_false this
    omega
theorem FormsFunctions_pure : driftnetlaw19_FormsFunctions.Pure := by
  intro a0 h0
  refine ⟨1, ?_⟩
  obtain ⟨v, hv⟩ : ∃ v, a0.extract 0 (mn (a0.size : Int) 300).toNat = v := ⟨_, rfl⟩
  have hm0 : 0 ≤ mn (a0.size : Int) 300 := by unfold mn; split <;> omega
  have hm1 : mn (a0.size : Int) 300 ≤ (a0.size : Int) := by unfold mn; split <;> omega
  have hm2 : mn (a0.size : Int) 300 ≤ 300 := by unfold mn; split <;> omega
  have hvs : v.size ≤ 300 := by rw [← hv, ByteArray.size_extract]; omega
  unfold driftnetlaw19_FormsFunctions.f
  rw [works_true, Option.bind_some, if_pos rfl, if_pos hm0, if_pos hm1, hv]
  simp only [Option.bind_some]
  rw [run1 v hvs, Option.bind_some, run2 v hvs, Option.bind_some, run3 v hvs, Option.bind_some, run4 v hvs, Option.bind_some, run5 v hvs, Option.bind_some, run6 v hvs, Option.bind_some, run7 v hvs, Option.bind_some, run8 v hvs, Option.bind_some, run9 v hvs, Option.bind_some, run10 v hvs, Option.bind_some, unq_back v hvs, Option.bind_some]
  dsimp only
  have ht := trimP_size v
  split
  · exact j0_true v hvs
  · rename_i hne
    have hne' : (trimP v).data.toList ≠ [] := fun e => hne (by rw [ByteArray.toList_eq, e])
    have hp : 0 < (trimP v).size := by rw [Lib.size_eq]; exact List.length_pos_iff.2 hne'
    obtain ⟨e1, e2⟩ := trim_ends v hne'
    have hw : wrap64 (((trimP v).size : Int) - 1) = (((trimP v).size - 1 : Nat) : Int) := by
      rw [Go.IntWalk.wrap64_in _ (by omega)]; omega
    rw [if_pos (by omega), if_pos e1, hw, if_pos (by omega), if_pos (by omega), decide_eq_true e2]
    exact j0_true v hvs
end Go.Proofs.YtfojidcbcpkpmaaGreatDoor
end
section
namespace Go.Proofs.YtfojidcbcpkpmaaGreatDoor
open Go
theorem formsFunctions_card : Rows.FormsFunctionsCardSaid := formsFunctions.card_of FormsFunctions_pure
#print axioms formsFunctions_card
end Go.Proofs.YtfojidcbcpkpmaaGreatDoor
end
